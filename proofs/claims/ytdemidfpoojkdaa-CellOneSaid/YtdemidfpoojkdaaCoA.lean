/- Workers that swap one shared word at once: what each goroutine is asked for, and where it stands. -/
import Derived.Conc.CrowdRun
import Derived.Conc.WgGenN3
import Derived.Conc.WgWords
namespace Go.Proofs.Ytdemidfpoojkdaa.Co
open Go.Conc Go.ConcN
open Go.ConcR (KK wgBlock WgAt stA smA rd wr mk DC0 Bk g_of_ofEvents ofEvent_loc_mark ofEvent_cell ofEvent_mk loc_of_ofEvent)
set_option linter.unusedVariables false
set_option linter.unusedSimpArgs false

/-- The numbers of the shared blocks and what is to come of them: the group, the word's cell, the count; the word ahead and behind; may it go on; how many workers. -/
structure Env where make ::
  P : Program
  ty : TypeId
  tc : TypeId
  td : TypeId
  Wg : Nat
  Ce : Nat
  Dn : Nat
  first : Int
  next : Int
  may : Bool
  n : Nat
  Lw : Nat → Nat

section
variable (E : Env)
def Env.three (b : Nat) : Prop := b = E.Wg ∨ b = E.Ce ∨ b = E.Dn
def Env.sh : Loc → Prop := fun l => ∃ a, l = .cell a ∧ E.three a.block
def Env.rdL (k : Nat) : Loc → Prop := fun l => ∃ a, l = .cell a ∧ a.block < E.Lw k ∧ ¬ E.three a.block
def noOwn : Nat → Loc → Prop := fun _ _ => False
def Env.ceA : Addr := ⟨E.Ce, 0, none⟩
def Env.dnA : Addr := ⟨E.Dn, 0, none⟩
def Env.ce (x : Int) (w : World) : Prop := w.heap[E.Ce]? = some (.cells #[.int .u64 x] E.tc)
def Env.dn (d : Int) (w : World) : Prop := w.heap[E.Dn]? = some (.cells #[.int .i64 d] E.td)
def Env.live (w : World) : Prop := WgLive E.ty E.Wg w ∧ (∃ x, E.ce x w) ∧ ∃ d, E.dn d w

/-- What the starter suffers. -/
structure Env.RS (w w₁ : World) : Prop where
  tape : w₁.tape = w.tape
  os : w₁.os = w.os
  output : w₁.output = w.output
  size : w₁.heap.size = w.heap.size
  block : ∀ b, ¬ E.three b → w₁.heap[b]? = w.heap[b]?
  live : E.live w → E.live w₁
/-- What a worker suffers: the low blocks but the shared ones stand. -/
structure Env.RK (Low : Nat) (w w₁ : World) : Prop where
  low : ∀ b, b < Low → ¬ E.three b → w₁.heap[b]? = w.heap[b]?
  live : E.live w → E.live w₁

def Env.ok (k : Nat) (e : Event) : Prop := (∀ fn pos, OkW E.sh noOwn E.rdL k { g := k, fn, pos, act := .ofEvent e }) ∧ e.loc ≠ .mark .disable ∧ e.loc ≠ .mark .enable ∧ e.loc ≠ .mark (.release (stA E.Wg))
def Env.ok0 (j : Nat) (e : Event) : Prop := (∀ fn pos, Ok0 E.sh noOwn E.rdL j { g := 0, fn, pos, act := .ofEvent e }) ∧ e.loc ≠ .mark .disable ∧ e.loc ≠ .mark .enable ∧ e.loc ≠ .mark (.release (stA E.Wg))
/-- A worker's own step. -/
def Env.DK (k : Nat) (w w' : World) (es : Array Event) : Prop := w' = w ∧ ∀ e ∈ es, E.ok k e
/-- The starter's own step while j workers are started. -/
def Env.DS (j : Nat) (w w' : World) (es : Array Event) : Prop := (∀ b, b < E.Lw j → w'.heap[b]? = w.heap[b]?) ∧ ∀ e ∈ es, E.ok0 j e

/-! A worker, from its end backwards. -/
section
variable (k : Nat)
def Env.K4 (g : Goroutine) (w : World) : Prop :=
  g.status = .running ∧ mayWake E.P g = true ∧ (WgAt E.ty E.Wg w 0 0 → ∃ g', stepG E.P false g w = .go g' (w.setCell (smA E.Wg) (.int .u32 1)) (semEvents (smA E.Wg)) ∧ ∃ q, QuitsD E.P q 1 g')
def Env.K3 (g : Goroutine) (w : World) : Prop :=
  g.status = .running ∧ (WgAt E.ty E.Wg w 1 0 → ∃ g', stepG E.P false g w = .go g' (w.setCell (stA E.Wg) (.int .u64 0)) #[wr (stA E.Wg)] ∧ ∃ m, Goes E.P false (E.RK (E.Lw k)) DC0 E.K4 m g' (w.setCell (stA E.Wg) (.int .u64 0)))
def Env.K2 (g : Goroutine) (w : World) : Prop :=
  g.status = .running ∧ (WgAt E.ty E.Wg w 1 0 → ∃ g', stepG E.P false g w = .go g' w #[rd (stA E.Wg)] ∧ ∃ m, Goes E.P false (E.RK (E.Lw k)) DC0 (E.K3 k) m g' w)
def Env.K1 (g : Goroutine) (w : World) : Prop :=
  g.status = .running ∧ ∀ v wt : Nat, wt ≤ 1 → v < 2147483647 → WgAt E.ty E.Wg w ((v + 1) * KK + wt) 0 →
    ∃ g', stepG E.P false g w = .go g' (w.setCell (stA E.Wg) (.int .u64 (v * KK + wt))) #[rd (stA E.Wg), wr (stA E.Wg)] ∧
      ((v = 0 ∧ wt = 1) → ∃ m, Goes E.P false (E.RK (E.Lw k)) DC0 (E.K2 k) m g' (w.setCell (stA E.Wg) (.int .u64 (v * KK + wt)))) ∧ (¬ (v = 0 ∧ wt = 1) → ∃ q, QuitsD E.P q 1 g')
def Env.Kd (g : Goroutine) (w : World) : Prop :=
  g.status = .running ∧ ∃ g', stepG E.P false g w = .go g' w #[mk .disable] ∧ ∃ m, Goes E.P false (E.RK (E.Lw k)) DC0 (E.K1 k) m g' w
def Env.Kr (g : Goroutine) (w : World) : Prop :=
  g.status = .running ∧ ∃ g', stepG E.P false g w = .go g' w #[mk (.releaseMerge (stA E.Wg))] ∧ ∃ m, Goes E.P false (E.RK (E.Lw k)) DC0 (E.Kd k) m g' w
/-- The count is raised. -/
def Env.Ka (g : Goroutine) (w : World) : Prop :=
  g.status = .running ∧ (E.dn 0 w → ∃ g', stepG E.P false g w = .go g' (w.setCell E.dnA (.int .i64 1)) #[rd E.dnA, wr E.dnA] ∧ ∃ m, Goes E.P false (E.RK (E.Lw k)) (E.DK k) (E.Kr k) m g' (w.setCell E.dnA (.int .i64 1)))
/-- The word is swapped, or it is another one by now. -/
def Env.Kc (g : Goroutine) (w : World) : Prop :=
  g.status = .running ∧
    (E.ce E.first w → ∃ g', stepG E.P false g w = .go g' (w.setCell E.ceA (.int .u64 E.next)) #[rd E.ceA, wr E.ceA] ∧ ∃ m, Goes E.P false (E.RK (E.Lw k)) (E.DK k) (E.Ka k) m g' (w.setCell E.ceA (.int .u64 E.next))) ∧
    (E.ce E.next w → ∃ g', stepG E.P false g w = .go g' w #[rd E.ceA] ∧ ∃ m, Goes E.P false (E.RK (E.Lw k)) (E.DK k) (E.Kr k) m g' w)
/-- All of a worker. -/
def Env.work (g : Goroutine) (w : World) : Prop :=
  (E.may = true → ∃ m, Goes E.P false (E.RK (E.Lw k)) (E.DK k) (E.Kc k) m g w) ∧ (E.may = false → ∃ m, Goes E.P false (E.RK (E.Lw k)) (E.DK k) (E.Kr k) m g w)
end

/-! The starter, from its end backwards. -/
section
variable (Anch : Goroutine → World → Prop) (Post : Value → World → Prop)
/-- What is found behind the join. -/
def Env.found (w : World) : Prop := (E.may = true → E.ce E.next w ∧ E.dn 1 w) ∧ (E.may = false → E.ce E.first w ∧ E.dn 0 w)
def atR (w w₁ : World) : Prop := ∃ d, w₁ = w.at d
def Env.Se (g : Goroutine) (w : World) : Prop :=
  g.status = .running ∧ ∃ v es, stepG E.P true g w = .ended (.done v) w es ∧ (∀ e ∈ es, E.ok0 E.n e) ∧ Post v w
def Env.Sq (g : Goroutine) (w : World) : Prop :=
  g.status = .running ∧ ∃ g', stepG E.P true g w = .go g' w #[mk (.acquire (stA E.Wg))] ∧ (E.found w → ∃ m, Goes E.P true atR (E.DS E.n) (E.Se Post) m g' w)
def Env.Sn (g : Goroutine) (w : World) : Prop :=
  g.status = .running ∧ ∃ g', stepG E.P true g w = .go g' w #[mk .enable] ∧ ∃ m, Goes E.P true E.RS (E.DS E.n) (E.Sq Post) m g' w
def Env.S4 (g : Goroutine) (w : World) : Prop :=
  g.status = .running ∧ (WgAt E.ty E.Wg w 0 0 → ∃ g', stepG E.P true g w = .go g' w #[rd (stA E.Wg)] ∧ ∃ m, Goes E.P true E.RS (E.DS E.n) (E.Sn Post) m g' w)
def Env.S3 (g : Goroutine) (w : World) : Prop :=
  g.status = .running ∧ g.offers = none ∧
    ((∃ st, WgAt E.ty E.Wg w st 0) → stepG E.P true g w = .go { g with status := .blocked } w #[]) ∧
    (WgAt E.ty E.Wg w 0 1 → ∃ g', stepG E.P true g w = .go g' (w.setCell (smA E.Wg) (.int .u32 0)) (semEvents (smA E.Wg)) ∧ ∃ m, Goes E.P true E.RS (E.DS E.n) (E.S4 Post) m g' (w.setCell (smA E.Wg) (.int .u32 0)))
def Env.S2 (vs : Nat) (g : Goroutine) (w : World) : Prop :=
  g.status = .running ∧ ∀ v : Nat, v < 2147483648 → WgAt E.ty E.Wg w (v * KK) 0 →
    (v = vs → ∃ g', stepG E.P true g w = .go g' (w.setCell (stA E.Wg) (.int .u64 (v * KK + 1))) #[rd (stA E.Wg), wr (stA E.Wg)] ∧ ∃ m, Goes E.P true E.RS (E.DS E.n) (E.S3 Post) m g' (w.setCell (stA E.Wg) (.int .u64 (v * KK + 1)))) ∧
    (v ≠ vs → ∃ g', stepG E.P true g w = .go g' w #[rd (stA E.Wg)] ∧ ∃ m, Goes E.P true E.RS (E.DS E.n) Anch m g' w)
def Env.S1 (g : Goroutine) (w : World) : Prop :=
  g.status = .running ∧ ∀ v : Nat, v < 2147483648 → WgAt E.ty E.Wg w (v * KK) 0 → ∃ g', stepG E.P true g w = .go g' w #[rd (stA E.Wg)] ∧
    (v = 0 → ∃ m, Goes E.P true E.RS (E.DS E.n) (E.Sn Post) m g' w) ∧ (v ≠ 0 → ∃ m, Goes E.P true E.RS (E.DS E.n) (E.S2 Anch Post v) m g' w)
def Env.Sd (g : Goroutine) (w : World) : Prop :=
  g.status = .running ∧ ∃ g', stepG E.P true g w = .go g' w #[mk .disable] ∧ ∃ m, Goes E.P true E.RS (E.DS E.n) Anch m g' w
end
section
def Env.Sgo (j : Nat) (Next : Goroutine → World → Prop) (g : Goroutine) (w : World) : Prop :=
  g.status = .running ∧ ∃ g' child, stepG E.P true g w = .spawn g' child w #[] ∧ child.status = .running ∧ E.work (j + 1) child w ∧ Next g' w
def Env.Sen (j : Nat) (Next : Goroutine → World → Prop) (g : Goroutine) (w : World) : Prop :=
  g.status = .running ∧ ∃ g', stepG E.P true g w = .go g' w #[mk .enable] ∧ ∃ m, Goes E.P true E.RS (E.DS j) (E.Sgo j Next) m g' w
def Env.Sad (j : Nat) (Next : Goroutine → World → Prop) (g : Goroutine) (w : World) : Prop :=
  g.status = .running ∧ ∀ v : Nat, v < 2147483647 → WgAt E.ty E.Wg w (v * KK) 0 →
    ∃ g', stepG E.P true g w = .go g' (w.setCell (stA E.Wg) (.int .u64 ((v + 1) * KK))) #[rd (stA E.Wg), wr (stA E.Wg)] ∧
      ∃ m, Goes E.P true E.RS (E.DS j) (E.Sen j Next) m g' (w.setCell (stA E.Wg) (.int .u64 ((v + 1) * KK)))
def Env.Sdi (j : Nat) (Next : Goroutine → World → Prop) (g : Goroutine) (w : World) : Prop :=
  g.status = .running ∧ ∃ g', stepG E.P true g w = .go g' w #[mk .disable] ∧ ∃ m, Goes E.P true E.RS (E.DS j) (E.Sad j Next) m g' w
/-- r workers are still to be started. -/
def Env.spawns (Fin : Goroutine → World → Prop) : Nat → Goroutine → World → Prop
  | 0, g, w => Fin g w
  | r + 1, g, w => ∃ m, Goes E.P true E.RS (E.DS (E.n - (r + 1))) (E.Sdi (E.n - (r + 1)) (Env.spawns Fin r)) m g w
end

/-- A worker's place: stage, what is ahead of its release (2: the swap, 1: the count, 0: nothing), fuel, deafness. -/
inductive Env.ksit (k : Nat) : Nat → Nat → Nat → Nat → Goroutine → World → Prop
  | cas {m : Nat} {g : Goroutine} {w : World} : Goes E.P false (E.RK (E.Lw k)) (E.DK k) (E.Kc k) m g w → Env.ksit k 7 2 m 0 g w
  | add {m : Nat} {g : Goroutine} {w : World} : Goes E.P false (E.RK (E.Lw k)) (E.DK k) (E.Ka k) m g w → Env.ksit k 7 1 m 0 g w
  | rel {m : Nat} {g : Goroutine} {w : World} : Goes E.P false (E.RK (E.Lw k)) (E.DK k) (E.Kr k) m g w → Env.ksit k 7 0 m 0 g w
  | dis {m : Nat} {g : Goroutine} {w : World} : Goes E.P false (E.RK (E.Lw k)) DC0 (E.Kd k) m g w → Env.ksit k 6 0 m 0 g w
  | neg {m : Nat} {g : Goroutine} {w : World} : Goes E.P false (E.RK (E.Lw k)) DC0 (E.K1 k) m g w → Env.ksit k 5 0 m 1 g w
  | l4 {m : Nat} {g : Goroutine} {w : World} : Goes E.P false (E.RK (E.Lw k)) DC0 (E.K2 k) m g w → Env.ksit k 4 0 m 1 g w
  | l3 {m : Nat} {g : Goroutine} {w : World} : Goes E.P false (E.RK (E.Lw k)) DC0 (E.K3 k) m g w → Env.ksit k 3 0 m 1 g w
  | l2 {m : Nat} {g : Goroutine} {w : World} : Goes E.P false (E.RK (E.Lw k)) DC0 E.K4 m g w → Env.ksit k 2 0 m 1 g w
  | quit {q d : Nat} {g : Goroutine} {w : World} : QuitsD E.P q d g → Env.ksit k 1 0 q d g w

variable (Anch : Goroutine → World → Prop) (Post : Value → World → Prop)
def Env.fin (g : Goroutine) (w : World) : Prop := ∃ m, Goes E.P true E.RS (E.DS E.n) (E.Sd Anch) m g w
/-- The starter's place: tag, how many are started, fuel, deafness. -/
inductive Env.csit : CTag → Nat → Nat → Nat → Goroutine → World → Prop
  | skd {r m : Nat} {g : Goroutine} {w : World} : r < E.n → Goes E.P true E.RS (E.DS (E.n - (r + 1))) (E.Sdi (E.n - (r + 1)) (E.spawns (E.fin Anch) r)) m g w → Env.csit (.sp r 5) (E.n - (r + 1)) m 0 g w
  | sa1 {r m : Nat} {g : Goroutine} {w : World} : r < E.n → Goes E.P true E.RS (E.DS (E.n - (r + 1))) (E.Sad (E.n - (r + 1)) (E.spawns (E.fin Anch) r)) m g w → Env.csit (.sp r 4) (E.n - (r + 1)) m 1 g w
  | ske {r m : Nat} {g : Goroutine} {w : World} : r < E.n → Goes E.P true E.RS (E.DS (E.n - (r + 1))) (E.Sen (E.n - (r + 1)) (E.spawns (E.fin Anch) r)) m g w → Env.csit (.sp r 3) (E.n - (r + 1)) m 1 g w
  | sgo {r m : Nat} {g : Goroutine} {w : World} : r < E.n → Goes E.P true E.RS (E.DS (E.n - (r + 1))) (E.Sgo (E.n - (r + 1)) (E.spawns (E.fin Anch) r)) m g w → Env.csit (.sp r 2) (E.n - (r + 1)) m 0 g w
  | kd {m : Nat} {g : Goroutine} {w : World} : Goes E.P true E.RS (E.DS E.n) (E.Sd Anch) m g w → Env.csit .kd E.n m 0 g w
  | anch {m : Nat} {g : Goroutine} {w : World} : Goes E.P true E.RS (E.DS E.n) Anch m g w → Env.csit .anch E.n m 1 g w
  | w1 {m : Nat} {g : Goroutine} {w : World} : Goes E.P true E.RS (E.DS E.n) (E.S1 Anch Post) m g w → Env.csit .w1 E.n m 1 g w
  | w2 {vs m : Nat} {g : Goroutine} {w : World} : Goes E.P true E.RS (E.DS E.n) (E.S2 Anch Post vs) m g w → Env.csit (.w2 vs) E.n m 1 g w
  | w3 {m : Nat} {g : Goroutine} {w : World} : Goes E.P true E.RS (E.DS E.n) (E.S3 Post) m g w → Env.csit .w3 E.n (m + 1) 1 g w
  | blk {g : Goroutine} {w : World} : (∀ w₁, E.RS w w₁ → E.S3 Post g w₁) → Env.csit .blk E.n 0 1 { g with status := .blocked } w
  | w4 {m : Nat} {g : Goroutine} {w : World} : Goes E.P true E.RS (E.DS E.n) (E.S4 Post) m g w → Env.csit .w4 E.n m 1 g w
  | ke {m : Nat} {g : Goroutine} {w : World} : Goes E.P true E.RS (E.DS E.n) (E.Sn Post) m g w → Env.csit .ke E.n m 1 g w
  | acq {m : Nat} {g : Goroutine} {w : World} : Goes E.P true E.RS (E.DS E.n) (E.Sq Post) m g w → Env.csit .acq E.n m 0 g w
  | ret {m : Nat} {g : Goroutine} {w : World} : Goes E.P true atR (E.DS E.n) (E.Se Post) m g w → Env.csit .ret E.n m 0 g w
end

/-! The relies are closed, and what others do lies within them. -/
section
variable {E : Env} {Low Low' k j : Nat} {w w₁ w₂ : World}
theorem Env.RS.refl (w : World) : E.RS w w := ⟨rfl, rfl, rfl, rfl, fun _ _ => rfl, id⟩
theorem Env.RS.trans (h : E.RS w w₁) (h' : E.RS w₁ w₂) : E.RS w w₂ :=
  ⟨h'.tape.trans h.tape, h'.os.trans h.os, h'.output.trans h.output, h'.size.trans h.size, fun b hb => (h'.block b hb).trans (h.block b hb), h'.live ∘ h.live⟩
theorem Env.RS.at (w : World) (d : Nat) : E.RS w (w.at d) := ⟨rfl, rfl, rfl, rfl, fun _ _ => rfl, id⟩
theorem Env.RK.refl (w : World) : E.RK Low w w := ⟨fun _ _ _ => rfl, id⟩
theorem Env.RK.trans (h : E.RK Low w w₁) (h' : E.RK Low w₁ w₂) : E.RK Low w w₂ := ⟨fun b a c => (h'.low b a c).trans (h.low b a c), h'.live ∘ h.live⟩
theorem Env.RK.at (w : World) (d : Nat) : E.RK Low w (w.at d) := ⟨fun _ _ _ => rfl, id⟩
theorem Env.RS.toK (h : E.RS w w₁) (Low : Nat) : E.RK Low w w₁ := ⟨fun b _ hb => h.block b hb, h.live⟩
theorem Env.RK.of_low (h : ∀ b, b < Low' → w₁.heap[b]? = w.heap[b]?) (hL : Low ≤ Low') (hW : E.Wg < Low') (hC : E.Ce < Low') (hD : E.Dn < Low') : E.RK Low w w₁ :=
  ⟨fun b hb _ => h b (by omega), fun ⟨⟨st, sm, hl⟩, ⟨x, hx⟩, d, hd⟩ => ⟨⟨st, sm, hl.of_block (h _ hW)⟩, ⟨x, (h _ hC).trans hx⟩, d, (h _ hD).trans hd⟩⟩
/-- One shared block turns, and lives on. -/
theorem Env.RS.turn {b : Nat} (h : Aside b w w₁) (hb : E.three b) (hl : E.live w → E.live w₁) : E.RS w w₁ :=
  ⟨h.tape, h.os, h.output, h.size, fun c hc => h.block c (fun e => hc (e ▸ hb)), hl⟩
theorem atR.trans {w w₁ w₂ : World} (h : atR w w₁) (h' : atR w₁ w₂) : atR w w₂ := by
  obtain ⟨d, rfl⟩ := h; obtain ⟨d', rfl⟩ := h'; exact ⟨d', rfl⟩
theorem atR.refl (w : World) : atR w w := ⟨w.drawn, rfl⟩

variable {s u m d : Nat} {g : Goroutine}
theorem Env.ksit.rely (h : E.ksit k s u m d g w) (hr : E.RK (E.Lw k) w w₁) : E.ksit k s u m d g w₁ := by
  have tr : ∀ a b c, E.RK (E.Lw k) a b → E.RK (E.Lw k) b c → E.RK (E.Lw k) a c := fun _ _ _ h1 h2 => h1.trans h2
  cases h with
  | cas h => exact .cas (h.rely tr hr)
  | add h => exact .add (h.rely tr hr)
  | rel h => exact .rel (h.rely tr hr)
  | dis h => exact .dis (h.rely tr hr)
  | neg h => exact .neg (h.rely tr hr)
  | l4 h => exact .l4 (h.rely tr hr)
  | l3 h => exact .l3 (h.rely tr hr)
  | l2 h => exact .l2 (h.rely tr hr)
  | quit h => exact .quit h
theorem Env.ksit.run (h : E.ksit k s u m d g w) : (g.status = .running) ∨ (s = 1 ∧ g.status = .finished) := by
  have rf := Env.RK.refl (E := E) (Low := E.Lw k) w
  cases h with
  | quit h => exact h.status.imp id (fun x => ⟨rfl, x⟩)
  | _ h => exact .inl (Goes.running (fun _ _ x => x.1) w rf h)
theorem Env.ksit.sub (h : E.ksit k s u m d g w) (hs : s ≠ 7) : u = 0 := by cases h <;> first | rfl | exact absurd rfl hs
theorem Env.ksit.woken (h : E.ksit k s u m d g w) (a a' : Goroutine) (w' : World) : woken E.P a a' w' g = g := by
  unfold Go.Conc.woken
  split
  · exact again_running _ (h.run.imp id (fun x => x.2))
  · rfl
theorem Env.ksit.quits (h : E.ksit k 1 u m d g w) : QuitsD E.P m d g := by cases h; assumption

variable {Anch : Goroutine → World → Prop} {Post : Value → World → Prop} {tag : CTag} {f : Nat} {a : Goroutine}
theorem Env.csit.rely (h : E.csit Anch Post tag j f d a w) (hr : E.RS w w₁) (he : tag = .ret → atR w w₁) : E.csit Anch Post tag j f d a w₁ := by
  have tr : ∀ a b c, E.RS a b → E.RS b c → E.RS a c := fun _ _ _ h1 h2 => h1.trans h2
  cases h with
  | skd hn h => exact .skd hn (h.rely tr hr)
  | sa1 hn h => exact .sa1 hn (h.rely tr hr)
  | ske hn h => exact .ske hn (h.rely tr hr)
  | sgo hn h => exact .sgo hn (h.rely tr hr)
  | kd h => exact .kd (h.rely tr hr)
  | anch h => exact .anch (h.rely tr hr)
  | w1 h => exact .w1 (h.rely tr hr)
  | w2 h => exact .w2 (h.rely tr hr)
  | w3 h => exact .w3 (h.rely tr hr)
  | blk h => exact .blk (fun w₂ h₂ => h w₂ (hr.trans h₂))
  | w4 h => exact .w4 (h.rely tr hr)
  | ke h => exact .ke (h.rely tr hr)
  | acq h => exact .acq (h.rely tr hr)
  | ret h => exact .ret (Goes.rely (R := atR) (fun _ _ _ h1 h2 => atR.trans h1 h2) h (he rfl))
theorem Env.csit.run (hA : ∀ g w, Anch g w → g.status = .running) (h : E.csit Anch Post tag j f d a w) : (a.status = .running ∧ tag ≠ .blk) ∨ (a.status = .blocked ∧ tag = .blk) := by
  have rf := Env.RS.refl (E := E) w
  cases h with
  | blk h => exact .inr ⟨rfl, rfl⟩
  | anch h => exact .inl ⟨Goes.running hA w rf h, by simp⟩
  | ret h => exact .inl ⟨Goes.running (fun _ _ x => x.1) w (atR.refl w) h, by simp⟩
  | kd h => exact .inl ⟨Goes.running (fun _ _ x => x.1) w rf h, by simp⟩
  | w1 h => exact .inl ⟨Goes.running (fun _ _ x => x.1) w rf h, by simp⟩
  | w2 h => exact .inl ⟨Goes.running (fun _ _ x => x.1) w rf h, by simp⟩
  | w3 h => exact .inl ⟨Goes.running (fun _ _ x => x.1) w rf h, by simp⟩
  | w4 h => exact .inl ⟨Goes.running (fun _ _ x => x.1) w rf h, by simp⟩
  | ke h => exact .inl ⟨Goes.running (fun _ _ x => x.1) w rf h, by simp⟩
  | acq h => exact .inl ⟨Goes.running (fun _ _ x => x.1) w rf h, by simp⟩
  | _ _ h => exact .inl ⟨Goes.running (fun _ _ x => x.1) w rf h, by simp⟩
/-- Another's step: it stands; or, blocked, it is let try again. -/
theorem Env.csit.after (hA : ∀ g w, Anch g w → g.status = .running) (h : E.csit Anch Post tag j f d a w) (hr : E.RS w w₁) (he : tag = .ret → atR w w₁) (g g' : Goroutine) :
    ∃ tag' f', E.csit Anch Post tag' j f' d (woken E.P g g' w₁ a) w₁ ∧ f' ≤ f + 1 ∧ (tag' = tag ∨ (tag = .blk ∧ tag' = .w3)) ∧ (mayWake E.P g = true → g'.status = .running → tag' ≠ .blk) := by
  have h' := h.rely hr he
  by_cases hc : (mayWake E.P g && g'.status != .blocked && g'.status != .waiting) = true
  · have ew : woken E.P g g' w₁ a = a.again w₁ := by unfold Go.Conc.woken; rw [if_pos hc]
    rw [ew]
    rcases h'.run hA with ⟨hs, hne⟩ | ⟨_, rfl⟩
    · exact ⟨tag, f, by rw [again_running _ (.inl hs)]; exact h', by omega, .inl rfl, fun _ _ => hne⟩
    · cases h' with
      | blk hb =>
        have h3 := hb w₁ (.refl w₁)
        exact ⟨.w3, 1, by rw [Go.ConcR.again_blocked h3.1 h3.2.1]; exact .w3 (m := 0) (Goes.stop hb), by omega, .inr ⟨rfl, rfl⟩, fun _ _ => by simp⟩
  · have ew : woken E.P g g' w₁ a = a := by unfold Go.Conc.woken; rw [if_neg hc]
    rw [ew]
    exact ⟨tag, f, h', by omega, .inl rfl, fun h1 h2 => absurd (by simp [h1, h2]) hc⟩
theorem Env.csit.bound (h : E.csit Anch Post tag j f d a w) : j + pend tag ≤ E.n := by
  cases h <;> simp only [pend] <;> (try simp) <;> omega
end
end Go.Proofs.Ytdemidfpoojkdaa.Co
