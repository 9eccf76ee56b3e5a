/- Workers that swap one shared word at once: what holds of the machine at every moment. -/
import Derived.Test.YtdemidfpoojkdaaCoA
namespace Go.Proofs.Ytdemidfpoojkdaa.Co
open Go.Conc Go.ConcN
open Go.ConcR (KK wgBlock WgAt stA smA rd wr mk DC0 Bk g_of_ofEvents ofEvent_loc_mark ofEvent_cell ofEvent_mk loc_of_ofEvent)
set_option linter.unusedVariables false
set_option linter.unusedSimpArgs false

/-! What a step may list. -/
section
variable {E : Env} {k j : Nat} {fn : FuncId} {pos : String} {es : Array Event}
theorem sh_of_wg {l : Loc} (h : ShN E.Wg l) : E.sh l := let ⟨a, h1, h2⟩ := h; ⟨a, h1, .inl h2⟩
theorem ops_of {op : MemOp} {i : Nat} (h : op ∈ MemOp.ofEvents i fn pos es) : ∃ e ∈ es, op = { g := i, fn, pos, act := .ofEvent e } := by
  rw [ofEvents_eq] at h
  obtain ⟨e, he, rfl⟩ := Array.mem_map.1 h
  exact ⟨e, he, rfl⟩
theorem okW_of (h : ∀ e ∈ es, E.ok k e) : ∀ op ∈ MemOp.ofEvents k fn pos es, OkW E.sh noOwn E.rdL k op := by
  intro op hop; obtain ⟨e, he, rfl⟩ := ops_of hop; exact (h e he).1 fn pos
theorem ok0_of (h : ∀ e ∈ es, E.ok0 j e) : ∀ op ∈ MemOp.ofEvents 0 fn pos es, Ok0 E.sh noOwn E.rdL j op := by
  intro op hop; obtain ⟨e, he, rfl⟩ := ops_of hop; exact (h e he).1 fn pos
/-- An atomic access to a shared cell. -/
theorem okW_atom {a : Addr} {x : Bool} (ha : E.three a.block) (fn : FuncId) (pos : String) : OkW E.sh noOwn E.rdL k { g := k, fn, pos, act := .ofEvent ⟨.cell a, x, true⟩ } := by
  refine ⟨rfl, fun y hy => ?_⟩
  simp only [ofEvent_cell, MemAct.touch?, Option.some.injEq] at hy
  subst hy
  exact .inl ⟨⟨a, rfl, ha⟩, by simp, by simp⟩
theorem ok0_atom {a : Addr} {x : Bool} (ha : E.three a.block) (fn : FuncId) (pos : String) : Ok0 E.sh noOwn E.rdL j { g := 0, fn, pos, act := .ofEvent ⟨.cell a, x, true⟩ } := by
  refine ⟨rfl, fun y hy => ?_⟩
  simp only [ofEvent_cell, MemAct.touch?, Option.some.injEq] at hy
  subst hy
  exact .inl ⟨⟨a, rfl, ha⟩, by simp⟩
theorem ok_atom {a : Addr} {x : Bool} (ha : E.three a.block) : E.ok k ⟨.cell a, x, true⟩ := ⟨okW_atom ha, by simp, by simp, by simp⟩
theorem ok0_atom' {a : Addr} {x : Bool} (ha : E.three a.block) : E.ok0 j ⟨.cell a, x, true⟩ := ⟨ok0_atom ha, by simp, by simp, by simp⟩
/-- A worker reads a low cell. -/
theorem ok_read {a : Addr} (h1 : a.block < E.Lw k) (h2 : ¬ E.three a.block) : E.ok k ⟨.cell a, false, false⟩ := by
  refine ⟨fun fn pos => ⟨rfl, fun y hy => ?_⟩, by simp, by simp, by simp⟩
  simp only [ofEvent_cell, MemAct.touch?, Option.some.injEq] at hy
  subst hy
  exact .inr (.inr ⟨⟨a, rfl, h1, h2⟩, rfl⟩)
/-- The starter reads a cell that is not shared. -/
theorem ok0_read {a : Addr} (h2 : ¬ E.three a.block) : E.ok0 j ⟨.cell a, false, false⟩ := by
  refine ⟨fun fn pos => ⟨rfl, fun y hy => ?_⟩, by simp, by simp, by simp⟩
  simp only [ofEvent_cell, MemAct.touch?, Option.some.injEq] at hy
  subst hy
  exact .inr ⟨fun ⟨a', e, hs⟩ => by cases e; exact h2 hs, fun _ _ _ h => h, fun h => by cases h⟩
/-- The starter writes a cell that no worker has been handed. -/
theorem ok0_write {a : Addr} (h2 : ¬ E.three a.block) (hl : ∀ k, k ≤ j → E.Lw k ≤ a.block) (x : Bool) : E.ok0 j ⟨.cell a, x, false⟩ := by
  refine ⟨fun fn pos => ⟨rfl, fun y hy => ?_⟩, by simp, by simp, by simp⟩
  simp only [ofEvent_cell, MemAct.touch?, Option.some.injEq] at hy
  subst hy
  exact .inr ⟨fun ⟨a', e, hs⟩ => by cases e; exact h2 hs, fun _ _ _ h => h, fun _ k _ hk => fun ⟨a', e, hs, _⟩ => by cases e; have := hl k hk; omega⟩
theorem okW_none' (h : ∀ e ∈ es, (MemAct.ofEvent e).touch? = none) : ∀ op ∈ MemOp.ofEvents k fn pos es, OkW E.sh noOwn E.rdL k op := by
  intro op hop; obtain ⟨e, he, rfl⟩ := ops_of hop; exact ⟨rfl, fun x hx => by simp only [h e he] at hx; cases hx⟩
theorem ok0_none' (h : ∀ e ∈ es, (MemAct.ofEvent e).touch? = none) : ∀ op ∈ MemOp.ofEvents 0 fn pos es, Ok0 E.sh noOwn E.rdL j op := by
  intro op hop; obtain ⟨e, he, rfl⟩ := ops_of hop; exact ⟨rfl, fun x hx => by simp only [h e he] at hx; cases hx⟩
theorem okW_bk (h : ∀ e ∈ es, Bk E.Wg e) : ∀ op ∈ MemOp.ofEvents k fn pos es, OkW E.sh noOwn E.rdL k op := by
  intro op hop
  refine ⟨(okW_of_Bk (Own := noOwn) (Rd := noOwn) h op hop).1, fun x hx => ?_⟩
  rcases (okW_of_Bk (Own := noOwn) (Rd := noOwn) h op hop).2 x hx with ⟨h1, h2⟩ | h1 | ⟨h1, _⟩
  · exact .inl ⟨sh_of_wg h1, h2⟩
  · exact h1.elim
  · exact h1.elim
theorem ok0_bk (h : ∀ e ∈ es, Bk E.Wg e) : ∀ op ∈ MemOp.ofEvents 0 fn pos es, Ok0 E.sh noOwn E.rdL j op := by
  intro op hop
  obtain ⟨e, he, rfl⟩ := ops_of hop
  refine ⟨rfl, fun x hx => ?_⟩
  rcases h e he with h1 | h1 | ⟨a, wr, rfl, ha⟩
  · simp only [ofEvent_loc_mark h1] at hx; cases hx
  · simp only [ofEvent_loc_mark h1] at hx; cases hx
  · exact (ok0_atom (E := E) (j := j) (x := wr) (.inl ha) fn pos).2 x hx
theorem apart : Apart E.sh noOwn E.rdL := ⟨fun _ _ _ h => h.elim, fun _ _ _ h => h.elim, fun _ _ h => h.elim, fun k l ⟨a, e, _, h3⟩ ⟨a', e', h'⟩ => by subst e; cases e'; exact h3 h'⟩
end

/-- Where the blocks lie. -/
structure Env.geo (E : Env) : Prop where
  mono : ∀ a b, a ≤ b → E.Lw a ≤ E.Lw b
  hW : E.Wg < E.Lw 0
  hC : E.Ce < E.Lw 0
  hD : E.Dn < E.Lw 0
  wc : E.Ce ≠ E.Wg
  wd : E.Dn ≠ E.Wg
  cd : E.Dn ≠ E.Ce
  ne : E.next ≠ E.first
  pos : 0 < E.n
  n31 : E.n < 2147483648

section
variable (E : Env)
structure Env.com (j : Nat) (gs : Array Goroutine) (w : World) (t : Trace) (D : Nat → WD) (S : Nat → Nat) (d0 : Nat) : Prop where
  size : gs.size = j + 1
  wk : ∀ i, i < j → ∃ g, gs[i + 1]? = some g ∧ E.ksit (i + 1) (D i).stage (S i) (D i).fuel (D i).deaf g w
  ct : CT E.sh noOwn E.rdL t j
  norel : NoRelease (stA E.Wg) t
  deaf0 : Deaf t 0 = d0
  deafW : ∀ i, i < j → Deaf t (i + 1) = (D i).deaf
  rel : ∀ i, i < j → (D i).stage ≤ 6 → ∃ r, RelBy (stA E.Wg) t (i + 1) r
/-- How the word and the count hang on where the workers stand. -/
inductive Env.hits (j : Nat) (S : Nat → Nat) : Int → Int → Prop
  | no : E.may = false → (∀ i, i < j → S i = 0) → Env.hits j S E.first 0
  | yet : E.may = true → (∀ i, i < j → S i = 2) → Env.hits j S E.first 0
  | hit (L : Nat) : E.may = true → L < j → S L = 1 → (∀ i, i < j → i ≠ L → S i ≠ 1) → Env.hits j S E.next 0
  | done (L : Nat) : E.may = true → L < j → S L = 0 → (∀ i, i < j → S i ≠ 1) → Env.hits j S E.next 1
variable (Anch : Goroutine → World → Prop) (Post : Value → World → Prop)
def Env.mu (j : Nat) (D : Nat → WD) (S : Nat → Nat) (tag : CTag) (f0 : Nat) : Nat × Nat := (phi E.n (Vc j D) tag + (Ssum j D + sumTo j S), f0 + 2 * Fsum j D)
def Env.inv (μ : Nat × Nat) (m : Machine) (t : Trace) : Prop :=
  ∃ (gs : Array Goroutine) (w : World) (sl : Option (Nat × Nat)) (j : Nat) (D : Nat → WD) (S : Nat → Nat) (tag : CTag) (f0 d0 : Nat) (a : Goroutine) (st sm x d : Int),
    m = crowd gs w sl ∧ gs[0]? = some a ∧ E.csit Anch Post tag j f0 d0 a w ∧ E.com j gs w t D S d0 ∧ WgAt E.ty E.Wg w st sm ∧ E.ce x w ∧ E.dn d w ∧ ConcN.Mode j D tag st sm ∧ E.hits j S x d ∧
    (tag = .ret → AcqAll E.Wg j t) ∧ μ = E.mu j D S tag f0
/-- What a step comes to. -/
def Env.nextOk (i : Nat) (μ : Nat × Nat) (gs : Array Goroutine) (w : World) (sl : Option (Nat × Nat)) (t : Trace) : Prop :=
  ∃ m₁ ops μ', runT E.P (crowd gs w sl) i = (.next m₁, ops) ∧ Lt2 μ' μ ∧ E.inv Anch Post μ' m₁ (t ++ ops)
end

section
variable {E : Env} {Anch : Goroutine → World → Prop} {Post : Value → World → Prop} {j : Nat} {gs : Array Goroutine} {w w' : World} {sl : Option (Nat × Nat)} {t : Trace} {D : Nat → WD} {S : Nat → Nat} {d0 f0 : Nat} {tag : CTag} {a : Goroutine}
theorem Env.com.at (h : E.com j gs w t D S d0) (d : Nat) : E.com j gs (w.at d) t D S d0 :=
  ⟨h.size, fun i hi => let ⟨g, hg, hs⟩ := h.wk i hi; ⟨g, hg, hs.rely (.at w d)⟩, h.ct, h.norel, h.deaf0, h.deafW, h.rel⟩
theorem Env.com.stepW (h : E.com j gs w t D S d0) {i : Nat} (hi : i < j) {g g' : Goroutine} {fn : FuncId} {pos : String} {es : Array Event} {s' u' m' dd' : Nat}
    (hr : E.RS w w') (hs' : E.ksit (i + 1) s' u' m' dd' g' w')
    (hok : ∀ op ∈ MemOp.ofEvents (i + 1) fn pos es, OkW E.sh noOwn E.rdL (i + 1) op) (hnr : ∀ e ∈ es, e.loc ≠ .mark (.release (stA E.Wg)))
    (hdeaf : deafBehind (D i).deaf es = dd') (hrel : s' ≤ 6 → ∃ r, RelBy (stA E.Wg) (t ++ MemOp.ofEvents (i + 1) fn pos es) (i + 1) r) :
    E.com j ((gs.map (woken E.P g g' w')).setIfInBounds (i + 1) g') w' (t ++ MemOp.ofEvents (i + 1) fn pos es) (upd D i ⟨s', m', dd'⟩) (upd S i u') d0 where
  size := by simp [h.size]
  wk := fun i' hi' => by
    by_cases e : i' = i
    · subst e
      exact ⟨g', get_map_set_same _ _ _ (by rw [h.size]; omega), by rw [upd_same, upd_same]; exact hs'⟩
    · obtain ⟨x, hx, hsx⟩ := h.wk i' hi'
      exact ⟨x, by rw [get_map_set _ _ _ _ (by omega), hx, Option.map_some, hsx.woken], by rw [upd_ne D _ e, upd_ne S _ e]; exact hsx.rely (hr.toK _)⟩
  ct := h.ct.appW apart (by omega) (by omega) hok
  norel := h.norel.app (norel_of hnr)
  deaf0 := by rw [Deaf_other t (by omega) _ g_of_ofEvents, h.deaf0]
  deafW := fun i' hi' => by
    by_cases e : i' = i
    · subst e; rw [Deaf_own, h.deafW i' hi', upd_same]; exact hdeaf
    · rw [Deaf_other t (by omega) _ g_of_ofEvents, h.deafW i' hi', upd_ne D _ e]
  rel := fun i' hi' hst => by
    by_cases e : i' = i
    · subst e; rw [upd_same] at hst; exact hrel hst
    · rw [upd_ne D _ e] at hst
      obtain ⟨r, hr⟩ := h.rel i' hi' hst
      exact ⟨r, hr.appOther g_of_ofEvents (by omega)⟩
theorem Env.com.step0 (h : E.com j gs w t D S d0) {a a' : Goroutine} {fn : FuncId} {pos : String} {es : Array Event}
    (hr : ∀ i, i < j → E.RK (E.Lw (i + 1)) w w')
    (hok : ∀ op ∈ MemOp.ofEvents 0 fn pos es, Ok0 E.sh noOwn E.rdL j op) (hnr : ∀ e ∈ es, e.loc ≠ .mark (.release (stA E.Wg))) :
    E.com j ((gs.map (woken E.P a a' w')).setIfInBounds 0 a') w' (t ++ MemOp.ofEvents 0 fn pos es) D S (deafBehind d0 es) where
  size := by simp [h.size]
  wk := fun i hi => by
    obtain ⟨x, hx, hsx⟩ := h.wk i hi
    exact ⟨x, by rw [get_map_set _ _ _ _ (by omega), hx, Option.map_some, hsx.woken], hsx.rely (hr i hi)⟩
  ct := h.ct.app0 apart hok
  norel := h.norel.app (norel_of hnr)
  deaf0 := by rw [Deaf_own, h.deaf0]
  deafW := fun i hi => by rw [Deaf_other t (by omega) _ g_of_ofEvents, h.deafW i hi]
  rel := fun i hi hst => by
    obtain ⟨r, hr⟩ := h.rel i hi hst
    exact ⟨r, hr.appOther g_of_ofEvents (by omega)⟩
theorem Env.com.spawn (h : E.com j gs w t D S 0) {a' child : Goroutine} {x y : MemOp} {u m : Nat} (hx : x.g = 0 ∧ x.act = .go (j + 1)) (hy : y.g = j + 1 ∧ y.act = .start)
    (hc : E.ksit (j + 1) 7 u m 0 child w) : E.com (j + 1) ((gs.setIfInBounds 0 a').push child) w (t ++ #[x, y]) (upd D j ⟨7, m, 0⟩) (upd S j u) 0 := by
  have hm : ∀ op ∈ #[x, y], op = x ∨ op = y := by intro op hop; simpa using hop
  have hst : ∀ op ∈ #[x, y], op.act ≠ .mark .disable ∧ op.act ≠ .mark .enable := by
    intro op hop
    rcases hm op hop with rfl | rfl
    · rw [hx.2]; exact ⟨by simp, by simp⟩
    · rw [hy.2]; exact ⟨by simp, by simp⟩
  have hg : ∀ op ∈ #[x, y], ∀ i, i < j → op.g ≠ i + 1 := by
    intro op hop i hi
    rcases hm op hop with rfl | rfl
    · rw [hx.1]; omega
    · rw [hy.1]; omega
  have old : ∀ i, i < j + 1 → i ≠ j → i < j := fun i h1 h2 => by omega
  refine ⟨by simp [h.size], fun i hi => ?_, h.ct.fork apart hx hy h.deaf0, h.norel.app fun op hop => ?_, by rw [Deaf_still t 0 _ hst, h.deaf0], fun i hi => ?_, fun i hi hs => ?_⟩
  · by_cases e : i = j
    · subst e
      refine ⟨child, ?_, by rw [upd_same, upd_same]; exact hc⟩
      rw [show i + 1 = (gs.setIfInBounds 0 a').size by simp [h.size], Array.getElem?_push_size]
    · obtain ⟨g, hg, hsg⟩ := h.wk i (old i hi e)
      refine ⟨g, ?_, by rw [upd_ne D _ e, upd_ne S _ e]; exact hsg⟩
      rw [Array.getElem?_push_lt (by simp [h.size]; omega), ← Array.getElem?_eq_getElem, Array.getElem?_setIfInBounds_ne (by omega)]
      exact hg
  · rcases hm op hop with rfl | rfl
    · rw [hx.2]; simp
    · rw [hy.2]; simp
  · rw [Deaf_still t _ _ hst]
    by_cases e : i = j
    · subst e; rw [upd_same]; exact Deaf_absent fun b op hb e => by have := h.ct.gs b op hb; omega
    · rw [h.deafW i (old i hi e), upd_ne D _ e]
  · by_cases e : i = j
    · subst e; rw [upd_same] at hs; simp at hs
    · rw [upd_ne D _ e] at hs
      obtain ⟨r, hr⟩ := h.rel i (old i hi e) hs
      exact ⟨r, hr.appNot fun op hop => hg op hop i (old i hi e)⟩

theorem Env.ce.turn {x : Int} (h : E.ce x w) (y : Int) : E.ce y (w.setCell E.ceA (.int .u64 y)) := by
  unfold Env.ce at h ⊢
  rw [Env.ceA, setCell_eq_setRow w E.Ce 0 _ E.tc (0, 0) _ h, setRow_heap w E.Ce _ _ E.tc _ h]
  simp
theorem Env.dn.turn {x : Int} (h : E.dn x w) (y : Int) : E.dn y (w.setCell E.dnA (.int .i64 y)) := by
  unfold Env.dn at h ⊢
  rw [Env.dnA, setCell_eq_setRow w E.Dn 0 _ E.td (0, 0) _ h, setRow_heap w E.Dn _ _ E.td _ h]
  simp
theorem Env.hits.same {x d : Int} (h : E.hits j S x d) {S' : Nat → Nat} (e : ∀ i, i < j → S' i = S i) : E.hits j S' x d := by
  cases h with
  | no h1 h2 => exact .no h1 fun i hi => (e i hi).trans (h2 i hi)
  | yet h1 h2 => exact .yet h1 fun i hi => (e i hi).trans (h2 i hi)
  | hit L h1 h2 h3 h4 => exact .hit L h1 h2 ((e L h2).trans h3) fun i hi hne => by rw [e i hi]; exact h4 i hi hne
  | done L h1 h2 h3 h4 => exact .done L h1 h2 ((e L h2).trans h3) fun i hi => by rw [e i hi]; exact h4 i hi
theorem upd_id (i u : Nat) (h : S i = u) : ∀ a, a < j → upd S i u a = S a := fun a _ => by
  by_cases e : a = i
  · subst e; rw [upd_same, h]
  · rw [upd_ne S _ e]

/-- Any step of a worker's. -/
theorem workerStep (G : E.geo) (hA : ∀ g w, Anch g w → g.status = .running) (ha : gs[0]? = some a) (hcs : E.csit Anch Post tag j f0 d0 a w) (hcom : E.com j gs w t D S d0)
    {i : Nat} (hi : i < j) {g g' : Goroutine} {es : Array Event} {s' u' m' dd' : Nat} {st' sm' x' d' : Int} (hg : gs[i + 1]? = some g) (hgo : stepG E.P false g w = .go g' w' es)
    (hr : E.RS w w') (he : tag = .ret → w' = w) (hs' : E.ksit (i + 1) s' u' m' dd' g' w')
    (hok : ∀ op ∈ MemOp.ofEvents (i + 1) g.frame.fn g.frame.place es, OkW E.sh noOwn E.rdL (i + 1) op) (hnr : ∀ e ∈ es, e.loc ≠ .mark (.release (stA E.Wg)))
    (hdeaf : deafBehind (D i).deaf es = dd') (hrel : s' ≤ 6 → ∃ r, RelBy (stA E.Wg) (t ++ MemOp.ofEvents (i + 1) g.frame.fn g.frame.place es) (i + 1) r)
    (hwg : WgAt E.ty E.Wg w' st' sm') (hce : E.ce x' w') (hdn : E.dn d' w')
    (hmode : ∀ tag', (tag' = tag ∨ (tag = .blk ∧ tag' = .w3)) → (mayWake E.P g = true → g'.status = .running → tag' ≠ .blk) → ConcN.Mode j (upd D i ⟨s', m', dd'⟩) tag' st' sm') (hhit : E.hits j (upd S i u') x' d')
    (hacq : tag = .ret → AcqAll E.Wg j (t ++ MemOp.ofEvents (i + 1) g.frame.fn g.frame.place es))
    (hlt : (s' + u' < (D i).stage + S i ∧ cnt ⟨s', m', dd'⟩ ≤ cnt (D i)) ∨ (s' = (D i).stage ∧ u' = S i ∧ m' + 1 = (D i).fuel)) :
    E.nextOk Anch Post (i + 1) (E.mu j D S tag f0) gs w sl t := by
  obtain ⟨tag', f', hcs', hf', htag, hwk⟩ := hcs.after hA hr (fun e => by rw [he e]; exact atR.refl w) g g'
  have hrun := runT_crowd_go (P := E.P) (sl := sl) (i := i + 1) hg (by simpa using hgo)
  have e1 := sumTo_upd D (⟨s', m', dd'⟩ : WD) cnt hi
  have e2 := sumTo_upd D (⟨s', m', dd'⟩ : WD) WD.stage hi
  have e3 := sumTo_upd D (⟨s', m', dd'⟩ : WD) WD.fuel hi
  have e4 : sumTo j (upd S i u') + S i = sumTo j S + u' := sumTo_upd S u' (fun x => x) hi
  refine ⟨_, _, E.mu j (upd D i ⟨s', m', dd'⟩) (upd S i u') tag' f', hrun, ?_,
    _, w', sl, j, upd D i ⟨s', m', dd'⟩, upd S i u', tag', f', d0, woken E.P g g' w' a, st', sm', x', d', rfl, by rw [get_map_set _ _ _ _ (by omega), ha]; rfl, hcs',
    hcom.stepW hi hr hs' hok hnr hdeaf hrel, hwg, hce, hdn, hmode tag' htag hwk, hhit, ?_, rfl⟩
  · unfold Env.mu
    rw [phi_retag E.n _ htag]
    simp only [Vc, Ssum, Fsum] at *
    rcases hlt with ⟨h1, h2⟩ | ⟨h1, h1', h2⟩
    · refine Prod.Lex.left _ _ ?_
      have := phi_mono E.n (v' := sumTo j fun a => cnt (upd D i ⟨s', m', dd'⟩ a)) (v := sumTo j fun a => cnt (D a)) (by omega) tag
      omega
    · have ec : cnt (⟨s', m', dd'⟩ : WD) = cnt (D i) := by simp only [cnt, h1]
      have ev : (sumTo j fun a => cnt (upd D i ⟨s', m', dd'⟩ a)) = sumTo j fun a => cnt (D a) := by omega
      have es' : (sumTo j fun a => (upd D i ⟨s', m', dd'⟩ a).stage) = sumTo j fun a => (D a).stage := by omega
      have eu : sumTo j (upd S i u') = sumTo j S := by omega
      rw [ev, es', eu]
      refine Prod.Lex.right _ ?_
      omega
  · intro e
    rcases htag with rfl | ⟨_, rfl⟩
    · exact hacq e
    · cases e
/-- Any step of the starter's but the go statement and the return. -/
theorem callerStep (ha : gs[0]? = some a) (hcom : E.com j gs w t D S d0)
    {a' : Goroutine} {es : Array Event} {tag' : CTag} {f' : Nat} {st' sm' x d : Int} (hgo : stepG E.P true a w = .go a' w' es) (hr : ∀ i, i < j → E.RK (E.Lw (i + 1)) w w')
    (hok : ∀ op ∈ MemOp.ofEvents 0 a.frame.fn a.frame.place es, Ok0 E.sh noOwn E.rdL j op) (hnr : ∀ e ∈ es, e.loc ≠ .mark (.release (stA E.Wg)))
    (hcs' : E.csit Anch Post tag' j f' (deafBehind d0 es) a' w') (hwg : WgAt E.ty E.Wg w' st' sm') (hce : E.ce x w') (hdn : E.dn d w') (hmode : ConcN.Mode j D tag' st' sm') (hhit : E.hits j S x d)
    (hacq : tag' = .ret → AcqAll E.Wg j (t ++ MemOp.ofEvents 0 a.frame.fn a.frame.place es))
    (hlt : phi E.n (Vc j D) tag' < phi E.n (Vc j D) tag ∨ (phi E.n (Vc j D) tag' = phi E.n (Vc j D) tag ∧ f' < f0)) :
    E.nextOk Anch Post 0 (E.mu j D S tag f0) gs w sl t := by
  have hrun := runT_crowd_go (P := E.P) (sl := sl) (i := 0) ha (by simpa using hgo)
  refine ⟨_, _, E.mu j D S tag' f', hrun, ?_,
    _, w', sl, j, D, S, tag', f', deafBehind d0 es, a', st', sm', x, d, rfl, get_map_set_same _ _ _ (by rw [hcom.size]; omega), hcs', hcom.step0 hr hok hnr, hwg, hce, hdn, hmode, hhit, hacq, rfl⟩
  unfold Env.mu
  rcases hlt with h | ⟨h1, h2⟩
  · exact Prod.Lex.left _ _ (by omega)
  · rw [h1]; exact Prod.Lex.right _ (by omega)
end
end Go.Proofs.Ytdemidfpoojkdaa.Co
