/- Workers that swap one shared word at once: the starter's step, and the run: on every tape it ends by the return, and all is well. -/
import Derived.Test.YtdemidfpoojkdaaCoC
namespace Go.Proofs.Ytdemidfpoojkdaa.Co
open Go.Conc Go.ConcN
open Go.ConcR (KK wgBlock WgAt stA smA rd wr mk DC0 Bk g_of_ofEvents ofEvent_loc_mark ofEvent_cell ofEvent_mk loc_of_ofEvent bk_of_mute)
set_option linter.unusedVariables false
set_option linter.unusedSimpArgs false

section
variable {E : Env} {Anch : Goroutine → World → Prop} {Post : Value → World → Prop} {j : Nat} {gs : Array Goroutine} {w w' : World} {sl : Option (Nat × Nat)} {t : Trace} {D : Nat → WD} {S : Nat → Nat} {d0 f0 f' : Nat} {tag tag' : CTag} {a a' : Goroutine} {st sm st' sm' x d : Int} {es : Array Event}

/-- All that holds at the starter's step. -/
structure At (E : Env) (j : Nat) (gs : Array Goroutine) (w : World) (t : Trace) (D : Nat → WD) (S : Nat → Nat) (d0 : Nat) (a : Goroutine) (st sm x d : Int) : Prop where
  ha : gs[0]? = some a
  com : E.com j gs w t D S d0
  wg : WgAt E.ty E.Wg w st sm
  ce : E.ce x w
  dn : E.dn d w
  hit : E.hits j S x d

theorem idleC (G : E.geo) (h : At E j gs w t D S d0 a st sm x d) (hmode : ConcN.Mode j D tag st sm) (hacq : tag = .ret → AcqAll E.Wg j t)
    (hgo : stepG E.P true a w = .go a' w' es) (hD : E.DS j w w' es) (hcs' : E.csit Anch Post tag j f' d0 a' w') (hf : f' < f0) : E.nextOk Anch Post 0 (E.mu j D S tag f0) gs w sl t := by
  obtain ⟨hlow, hev⟩ := hD
  have m0 := G.mono 0 j (Nat.zero_le _)
  have h1 := G.hW; have h2 := G.hC; have h3 := G.hD
  have hdf : deafBehind d0 es = d0 := deafBehind_idle (fun e he => ⟨(hev e he).2.1, (hev e he).2.2.1⟩) d0
  exact callerStep h.ha h.com hgo (fun i hi => .of_low hlow (G.mono _ _ (by omega)) (by omega) (by omega) (by omega)) (ok0_of hev) (fun e he => (hev e he).2.2.2) (by rw [hdf]; exact hcs')
    (h.wg.of_block (hlow _ (by omega))) ((hlow _ (by omega)).trans h.ce) ((hlow _ (by omega)).trans h.dn) hmode h.hit
    (fun e => (hacq e).app fun i r _ hr => hr.appOther g_of_ofEvents (by omega)) (.inr ⟨rfl, hf⟩)
theorem bookC (G : E.geo) (h : At E j gs w t D S d0 a st sm x d) (hgo : stepG E.P true a w = .go a' w' es) (hAs : Aside E.Wg w w') (hwg' : WgAt E.ty E.Wg w' st' sm') (hbk : ∀ e ∈ es, Bk E.Wg e)
    (hcs' : E.csit Anch Post tag' j f' (deafBehind d0 es) a' w') (hmode' : ConcN.Mode j D tag' st' sm') (hne : tag' ≠ .ret)
    (hlt : phi E.n (Vc j D) tag' < phi E.n (Vc j D) tag ∨ (phi E.n (Vc j D) tag' = phi E.n (Vc j D) tag ∧ f' < f0)) : E.nextOk Anch Post 0 (E.mu j D S tag f0) gs w sl t := by
  have hce' : E.ce x w' := (hAs.block _ G.wc).trans h.ce
  have hdn' : E.dn d w' := (hAs.block _ G.wd).trans h.dn
  exact callerStep h.ha h.com hgo (fun i _ => (Env.RS.turn hAs (.inl rfl) fun _ => live_of hwg' hce' hdn').toK _) (ok0_bk hbk) (norel_of_Bk hbk) hcs' hwg' hce' hdn' hmode' h.hit (fun e => absurd e hne) hlt

theorem w1Step (G : E.geo) (h : At E E.n gs w t D S 1 a st sm x d) (hmode : ConcN.Mode E.n D .w1 st sm) (hg : Goes E.P true E.RS (E.DS E.n) (E.S1 Anch Post) f0 a w) :
    E.nextOk Anch Post 0 (E.mu E.n D S .w1 f0) gs w sl t := by
  rcases Goes.cases hg with hstop | ⟨m', rfl, hstep⟩
  · obtain ⟨_, hall⟩ := hstop w (.refl w)
    obtain ⟨ho, rfl, rfl, _⟩ := hmode.open_inv trivial
    have hV := Vc_le E.n D
    have hn := G.n31
    obtain ⟨a', hgo, h0, hne⟩ := hall (Vc E.n D) (by omega) (by simpa [pend] using h.wg)
    by_cases hv : Vc E.n D = 0
    · obtain ⟨m₂, hk⟩ := h0 hv
      refine bookC G h hgo (.refl E.Wg w) h.wg bkRd (tag' := .ke) (.ke hk) ?_ (by simp) (.inl (by simp only [phi]; omega))
      have e : ((Vc E.n D + pend .w1 : Nat) : Int) * KK = 0 := by rw [hv]; simp [pend]
      rw [e]
      exact .fin trivial (allQuit_of ho hv)
    · obtain ⟨m₂, hk⟩ := hne hv
      exact bookC G h hgo (.refl E.Wg w) h.wg bkRd (tag' := .w2 (Vc E.n D)) (.w2 hk) (hmode.reopen trivial trivial rfl (fun vs e => by cases e; omega)) (by simp) (.inl (by simp only [phi]; omega))
  · obtain ⟨a', w', es, hgo, hD, hg'⟩ := hstep w (.refl w)
    exact idleC G h hmode (by simp) hgo hD (.w1 hg') (by omega)

/-- What stands behind the join. -/
theorem found_of (G : E.geo) (hcom : E.com E.n gs w t D S d0) (hce : E.ce x w) (hdn : E.dn d w) (hit : E.hits E.n S x d) (hq : AllQuit E.n D) : E.found w := by
  have s0 : ∀ i, i < E.n → S i = 0 := fun i hi => by
    obtain ⟨g, _, hs⟩ := hcom.wk i hi
    exact hs.sub (by rw [hq i hi]; omega)
  have hp := G.pos
  cases hit with
  | no h1 h2 => exact ⟨fun h => (by rw [h1] at h; cases h), fun _ => ⟨hce, hdn⟩⟩
  | yet h1 h2 => have := h2 0 hp; have := s0 0 hp; omega
  | hit L h1 h2 h3 h4 => have := s0 L h2; omega
  | done L h1 h2 h3 h4 => exact ⟨fun _ => ⟨hce, hdn⟩, fun h => (by rw [h1] at h; cases h)⟩

/-- A worker more. -/
theorem hits_more (h : E.hits j S x d) {u : Nat} (h0 : E.may = false → u = 0) (h2 : E.may = true → u = 2) : E.hits (j + 1) (upd S j u) x d := by
  have old : ∀ i, i < j → upd S j u i = S i := fun i hi => upd_ne S u (by omega)
  have split : ∀ {p : Nat → Prop}, (∀ i, i < j → p i) → p j → ∀ i, i < j + 1 → p i := fun h1 h2 i hi => by
    by_cases e : i = j
    · subst e; exact h2
    · exact h1 i (by omega)
  cases h with
  | no h1 h3 => exact .no h1 (split (fun i hi => (old i hi).trans (h3 i hi)) (by rw [upd_same]; exact h0 h1))
  | yet h1 h3 => exact .yet h1 (split (fun i hi => (old i hi).trans (h3 i hi)) (by rw [upd_same]; exact h2 h1))
  | hit L h1 h3 h4 h5 => exact .hit L h1 (by omega) ((old L h3).trans h4) (split (fun i hi e => by rw [old i hi]; exact h5 i hi e) (fun e => by rw [upd_same, h2 h1]; omega))
  | done L h1 h3 h4 h5 => exact .done L h1 (by omega) ((old L h3).trans h4) (split (fun i hi => by rw [old i hi]; exact h5 i hi) (by rw [upd_same, h2 h1]; omega))

set_option maxHeartbeats 2000000 in
theorem stepCaller (G : E.geo) (hAn : ∀ g w, Anch g w → ∃ m, Goes E.P true E.RS (E.DS E.n) (E.S1 Anch Post) m g w)
    (hcs : E.csit Anch Post tag j f0 d0 a w) (h : At E j gs w t D S d0 a st sm x d) (hmode : ConcN.Mode j D tag st sm) (hacq : tag = .ret → AcqAll E.Wg j t) (hrun : a.status = .running) :
    (∃ o w₁ ops, runT E.P (crowd gs w sl) 0 = (.ended o w₁, ops) ∧ ∀ w₀ sl₀, Good E.P Post (crowd gs w₀ sl₀) o w₁ (t ++ ops)) ∨ E.nextOk Anch Post 0 (E.mu j D S tag f0) gs w sl t := by
  have hVj := Vc_le j D
  have hn31 := G.n31
  cases hcs with
  | skd hr hg =>
    rcases Goes.cases hg with hstop | ⟨m', rfl, hstep⟩
    · obtain ⟨_, a', hgo, m₂, hk⟩ := hstop w (.refl w)
      exact .inr (bookC G h hgo (.refl E.Wg w) h.wg bkDis (.sa1 hr hk) (hmode.reopen trivial trivial rfl (by simp)) (by simp) (.inl (by simp only [phi]; omega)))
    · obtain ⟨a', w', es, hgo, hD, hg'⟩ := hstep w (.refl w)
      exact .inr (idleC G h hmode (by simp) hgo hD (.skd hr hg') (by omega))
  | sa1 hr hg =>
    rename_i r
    rcases Goes.cases hg with hstop | ⟨m', rfl, hstep⟩
    · obtain ⟨_, hall⟩ := hstop w (.refl w)
      obtain ⟨ho, rfl, rfl, _⟩ := hmode.open_inv trivial
      obtain ⟨a', hgo, m₂, hk⟩ := hall (Vc (E.n - (r + 1)) D) (by omega) (by simpa [pend] using h.wg)
      refine .inr (bookC G h hgo (aside_setCell w (stA E.Wg) _) (h.wg.setSt _) bkRw (.ske hr hk) ?_ (by simp) (.inl (by simp only [phi]; omega)))
      have e : (((Vc (E.n - (r + 1)) D : Nat) : Int) + 1) * KK = ((Vc (E.n - (r + 1)) D + pend (.sp r 3) : Nat) : Int) * KK := by simp [pend]
      rw [e]
      exact .opn trivial ho (by simp)
    · obtain ⟨a', w', es, hgo, hD, hg'⟩ := hstep w (.refl w)
      exact .inr (idleC G h hmode (by simp) hgo hD (.sa1 hr hg') (by omega))
  | ske hr hg =>
    rcases Goes.cases hg with hstop | ⟨m', rfl, hstep⟩
    · obtain ⟨_, a', hgo, m₂, hk⟩ := hstop w (.refl w)
      exact .inr (bookC G h hgo (.refl E.Wg w) h.wg bkEn (.sgo hr hk) (hmode.reopen trivial trivial rfl (by simp)) (by simp) (.inl (by simp only [phi]; omega)))
    · obtain ⟨a', w', es, hgo, hD, hg'⟩ := hstep w (.refl w)
      exact .inr (idleC G h hmode (by simp) hgo hD (.ske hr hg') (by omega))
  | sgo hr hg =>
    rename_i r
    rcases Goes.cases hg with hstop | ⟨m', rfl, hstep⟩
    · obtain ⟨_, a', child, hsp, _, hwork, hnext⟩ := hstop w (.refl w)
      obtain ⟨ho, rfl, rfl, _⟩ := hmode.open_inv trivial
      obtain ⟨u, m₂, hu0, hu2, hks⟩ : ∃ u m, (E.may = false → u = 0) ∧ (E.may = true → u = 2) ∧ E.ksit (E.n - (r + 1) + 1) 7 u m 0 child w := by
        cases hm : E.may with
        | true => obtain ⟨m, hk⟩ := hwork.1 hm; exact ⟨2, m, by simp, by simp, .cas hk⟩
        | false => obtain ⟨m, hk⟩ := hwork.2 hm; exact ⟨0, m, by simp, by simp, .rel hk⟩
      have hu : u ≤ 2 := by cases hm : E.may with
        | true => have := hu2 hm; omega
        | false => have := hu0 hm; omega
      have hrun' := runT_crowd_spawn (P := E.P) (sl := sl) (i := 0) h.ha (by simpa using hsp)
      rw [h.com.size] at hrun'
      have hcom' := h.com.spawn (a' := a') (x := { g := 0, fn := a.frame.fn, pos := a.frame.place, act := .go (E.n - (r + 1) + 1) }) (y := { g := E.n - (r + 1) + 1, fn := child.frame.fn, pos := a.frame.place, act := .start }) ⟨rfl, rfl⟩ ⟨rfl, rfl⟩ hks
      have hhit' := hits_more h.hit hu0 hu2
      have eV : Vc (E.n - (r + 1) + 1) (upd D (E.n - (r + 1)) ⟨7, m₂, 0⟩) = Vc (E.n - (r + 1)) D + 1 := by
        simp only [Vc, sumTo, upd_same]
        rw [sumTo_upd_out D _ cnt (Nat.le_refl _)]; rfl
      have eS : Ssum (E.n - (r + 1) + 1) (upd D (E.n - (r + 1)) ⟨7, m₂, 0⟩) = Ssum (E.n - (r + 1)) D + 7 := by
        simp only [Ssum, sumTo, upd_same]
        rw [sumTo_upd_out D _ WD.stage (Nat.le_refl _)]
      have eU : sumTo (E.n - (r + 1) + 1) (upd S (E.n - (r + 1)) u) = sumTo (E.n - (r + 1)) S + u := by
        simp only [sumTo, upd_same]
        have := sumTo_upd_out S u (fun x => x) (Nat.le_refl (E.n - (r + 1)))
        rw [show sumTo (E.n - (r + 1)) (upd S (E.n - (r + 1)) u) = sumTo (E.n - (r + 1)) S from this]
      have ho' : OpenSt (E.n - (r + 1) + 1) (upd D (E.n - (r + 1)) ⟨7, m₂, 0⟩) := fun i hi => by
        by_cases e : i = E.n - (r + 1)
        · subst e; rw [upd_same]; simp
        · rw [upd_ne D _ e]; exact ho i (by omega)
      have ha' : ((gs.setIfInBounds 0 a').push child)[0]? = some a' := by
        rw [Array.getElem?_push_lt (by simp [h.com.size]), ← Array.getElem?_eq_getElem]
        simp [h.com.size]
      have ej : E.n - (r + 1) + 1 = E.n - r := by omega
      rw [ej] at hrun' hcom' eV eS eU ho' hhit'
      have est : ∀ tag', pend tag' = 0 → ((Vc (E.n - (r + 1)) D + pend (.sp r 2) : Nat) : Int) * KK = ((Vc (E.n - r) (upd D (E.n - (r + 1)) ⟨7, m₂, 0⟩) + pend tag' : Nat) : Int) * KK := fun tag' hp => by rw [eV, hp]; simp [pend]
      have hwg := h.wg
      cases r with
      | zero =>
        obtain ⟨m₃, hk⟩ := hnext
        simp only [Nat.sub_zero] at hrun' hcom' eV eS eU ho' est hhit'
        refine .inr ⟨_, _, E.mu E.n (upd D (E.n - (0 + 1)) ⟨7, m₂, 0⟩) (upd S (E.n - (0 + 1)) u) .kd m₃, hrun', Prod.Lex.left _ _ (by simp only [phi]; omega),
          _, w, sl, E.n, _, _, .kd, m₃, 0, a', _, _, _, _, rfl, ha', .kd hk, hcom', hwg, h.ce, h.dn, ?_, hhit', by simp, rfl⟩
        rw [est .kd rfl]
        exact .opn trivial ho' (by simp)
      | succ r' =>
        obtain ⟨m₃, hk⟩ := hnext
        refine .inr ⟨_, _, E.mu (E.n - (r' + 1)) (upd D (E.n - (r' + 1 + 1)) ⟨7, m₂, 0⟩) (upd S (E.n - (r' + 1 + 1)) u) (.sp r' 5) m₃, hrun', Prod.Lex.left _ _ (by simp only [phi]; omega),
          _, w, sl, E.n - (r' + 1), _, _, .sp r' 5, m₃, 0, a', _, _, _, _, rfl, ha', .skd (by omega) hk, hcom', hwg, h.ce, h.dn, ?_, hhit', by simp, rfl⟩
        rw [est (.sp r' 5) rfl]
        exact .opn trivial ho' (by simp)
    · obtain ⟨a', w', es, hgo, hD, hg'⟩ := hstep w (.refl w)
      exact .inr (idleC G h hmode (by simp) hgo hD (.sgo hr hg') (by omega))
  | kd hg =>
    rcases Goes.cases hg with hstop | ⟨m', rfl, hstep⟩
    · obtain ⟨_, a', hgo, m₂, hk⟩ := hstop w (.refl w)
      exact .inr (bookC G h hgo (.refl E.Wg w) h.wg bkDis (.anch hk) (hmode.reopen trivial trivial rfl (by simp)) (by simp) (.inl (by simp only [phi]; omega)))
    · obtain ⟨a', w', es, hgo, hD, hg'⟩ := hstep w (.refl w)
      exact .inr (idleC G h hmode (by simp) hgo hD (.kd hg') (by omega))
  | anch hg =>
    rcases Goes.cases hg with hstop | ⟨m', rfl, hstep⟩
    · obtain ⟨m₂, hk⟩ := hAn a w (hstop w (.refl w))
      obtain ⟨m₁, ops, μ', h1, h2, h3⟩ := w1Step (sl := sl) G h (hmode.reopen trivial trivial rfl (by simp)) hk
      exact .inr ⟨m₁, ops, μ', h1, lt2_trans h2 (Prod.Lex.left _ _ (by simp only [phi]; omega)), h3⟩
    · obtain ⟨a', w', es, hgo, hD, hg'⟩ := hstep w (.refl w)
      exact .inr (idleC G h hmode (by simp) hgo hD (.anch hg') (by omega))
  | w1 hg => exact .inr (w1Step G h hmode hg)
  | w2 hg =>
    rename_i vs
    rcases Goes.cases hg with hstop | ⟨m', rfl, hstep⟩
    · obtain ⟨_, hall⟩ := hstop w (.refl w)
      obtain ⟨ho, rfl, rfl, hw2⟩ := hmode.open_inv trivial
      obtain ⟨hle, h1⟩ := hw2 vs rfl
      obtain ⟨hhit, hmiss⟩ := hall (Vc E.n D) (by omega) (by simpa [pend] using h.wg)
      by_cases e : Vc E.n D = vs
      · obtain ⟨a', hgo, m₂, hk⟩ := hhit e
        exact .inr (bookC G h hgo (aside_setCell w (stA E.Wg) _) (h.wg.setSt _) bkRw (.w3 hk) (.reg trivial ho (by omega)) (by simp) (.inl (by simp only [phi]; omega)))
      · obtain ⟨a', hgo, m₂, hk⟩ := hmiss e
        exact .inr (bookC G h hgo (.refl E.Wg w) h.wg bkRd (.anch hk) (hmode.reopen trivial trivial rfl (by simp)) (by simp) (.inl (by simp only [phi]; omega)))
    · obtain ⟨a', w', es, hgo, hD, hg'⟩ := hstep w (.refl w)
      exact .inr (idleC G h hmode (by simp) hgo hD (.w2 hg') (by omega))
  | w3 hg =>
    rcases Goes.cases hg with hstop | ⟨m', rfl, hstep⟩
    · obtain ⟨_, hoff, hblk, htake⟩ := hstop w (.refl w)
      cases hmode with
      | opn h1 _ _ => exact h1.elim
      | reg h1 h2 h3 => exact .inr (bookC G h (hblk ⟨_, h.wg⟩) (.refl E.Wg w) h.wg (by simp) (.blk hstop) (.reg trivial h2 h3) (by simp) (.inr ⟨rfl, by omega⟩))
      | last L h1 h2 h3 h4 => exact .inr (bookC G h (hblk ⟨_, h.wg⟩) (.refl E.Wg w) h.wg (by simp) (.blk hstop) (.last L trivial h2 h3 h4) (by simp) (.inr ⟨rfl, by omega⟩))
      | sema h2 =>
        obtain ⟨a', hgo, m₂, hk⟩ := htake h.wg
        exact .inr (bookC G h hgo (aside_setCell w (smA E.Wg) _) (h.wg.setSm 0) bk_sem (.w4 hk) (.fin trivial h2) (by simp) (.inl (by simp only [phi]; omega)))
      | fin h1 _ => exact h1.elim
    · obtain ⟨a', w', es, hgo, hD, hg'⟩ := hstep w (.refl w)
      exact .inr (idleC G h hmode (by simp) hgo hD (.w3 hg') (by omega))
  | blk hg => simp at hrun
  | w4 hg =>
    rcases Goes.cases hg with hstop | ⟨m', rfl, hstep⟩
    · obtain ⟨_, hx⟩ := hstop w (.refl w)
      obtain ⟨hq, rfl, rfl⟩ := hmode.fin_inv trivial
      obtain ⟨a', hgo, m₂, hk⟩ := hx h.wg
      exact .inr (bookC G h hgo (.refl E.Wg w) h.wg bkRd (.ke hk) (.fin trivial hq) (by simp) (.inl (by simp only [phi]; omega)))
    · obtain ⟨a', w', es, hgo, hD, hg'⟩ := hstep w (.refl w)
      exact .inr (idleC G h hmode (by simp) hgo hD (.w4 hg') (by omega))
  | ke hg =>
    rcases Goes.cases hg with hstop | ⟨m', rfl, hstep⟩
    · obtain ⟨_, a', hgo, m₂, hk⟩ := hstop w (.refl w)
      obtain ⟨hq, rfl, rfl⟩ := hmode.fin_inv trivial
      exact .inr (bookC G h hgo (.refl E.Wg w) h.wg bkEn (.acq hk) (.fin trivial hq) (by simp) (.inl (by simp only [phi]; omega)))
    · obtain ⟨a', w', es, hgo, hD, hg'⟩ := hstep w (.refl w)
      exact .inr (idleC G h hmode (by simp) hgo hD (.ke hg') (by omega))
  | acq hg =>
    rcases Goes.cases hg with hstop | ⟨m', rfl, hstep⟩
    · obtain ⟨_, a', hgo, hk⟩ := hstop w (.refl w)
      obtain ⟨hq, rfl, rfl⟩ := hmode.fin_inv trivial
      obtain ⟨m₂, hk⟩ := hk (found_of G h.com h.ce h.dn h.hit hq)
      refine .inr (callerStep h.ha h.com hgo (fun i _ => .refl w) (ok0_none' (by intro e he; simp at he; subst he; rfl)) (by intro e he; simp at he; subst he; simp [mk]) (.ret hk) h.wg h.ce h.dn (.fin trivial hq) h.hit (fun _ => ?_) (.inl (by simp only [phi]; omega)))
      have e1 : MemOp.ofEvents 0 a.frame.fn a.frame.place #[mk (.acquire (stA E.Wg))] = #[{ g := 0, fn := a.frame.fn, pos := a.frame.place, act := .mark (.acquire (stA E.Wg)) }] := by rw [ofEvents_eq]; simp [ofEvent_mk]
      have hy : (t ++ #[({ g := 0, fn := a.frame.fn, pos := a.frame.place, act := .mark (.acquire (stA E.Wg)) } : MemOp)])[t.size]? = some { g := 0, fn := a.frame.fn, pos := a.frame.place, act := .mark (.acquire (stA E.Wg)) } := by simp
      refine ⟨t.size, by rw [e1, act?_of hy], by rw [e1]; simp [Trace.g?], by rw [e1]; exact ⟨0, by simp [Trace.g?], by rw [deaf_old (Nat.le_refl _)]; exact h.com.deaf0⟩, fun i hi => ?_⟩
      obtain ⟨r, hr⟩ := h.com.rel i hi (by rw [hq i hi]; omega)
      exact ⟨r, hr.appOther g_of_ofEvents (by omega), lt_of_act? hr.act⟩
    · obtain ⟨a', w', es, hgo, hD, hg'⟩ := hstep w (.refl w)
      exact .inr (idleC G h hmode (by simp) hgo hD (.acq hg') (by omega))
  | ret hg =>
    rcases Goes.cases hg with hstop | ⟨m', rfl, hstep⟩
    · obtain ⟨_, v, es, hend, hev, hpost⟩ := hstop w (atR.refl w)
      obtain ⟨hq, rfl, rfl⟩ := hmode.fin_inv trivial
      have hct := h.com.ct.app0 apart (ok0_of (fn := a.frame.fn) (pos := a.frame.place) hev)
      have wkq : ∀ i g, gs[i]? = some g → i ≠ 0 → ∃ i', i = i' + 1 ∧ i' < E.n ∧ QuitsD E.P (D i').fuel (D i').deaf g := by
        intro i g hg hi0
        obtain ⟨i', rfl⟩ : ∃ i', i = i' + 1 := ⟨i - 1, by omega⟩
        have hlt : i' < E.n := by have := (Array.getElem?_eq_some_iff.1 hg).1; rw [h.com.size] at this; omega
        obtain ⟨g', hg', hs'⟩ := h.com.wk i' hlt
        rw [hg] at hg'
        cases hg'
        rw [hq i' hlt] at hs'
        exact ⟨i', rfl, hlt, hs'.quits⟩
      refine .inl ⟨_, _, _, runT_crowd_ended h.ha (by simpa using hend), fun w₀ sl₀ => ⟨v, rfl, hpost, hct.nr, ?_, ⟨fun g hg => ?_, rfl⟩, fun i g hg hi0 => ?_⟩⟩
      · obtain ⟨q, h1, h2, h3, h4⟩ := (hacq rfl).app (u := MemOp.ofEvents 0 a.frame.fn a.frame.place es) fun i r _ hr => hr.appOther g_of_ofEvents (by omega)
        refine handedOver_all (fun i g hgi hne => ?_) (h.com.norel.app (norel_of fun e he => (hev e he).2.2.2)) h1 h2 h3
        obtain ⟨op, ho, rfl⟩ := Option.map_eq_some_iff.1 hgi
        have := hct.gs i op ho
        have := h4 (op.g - 1) (by omega)
        rwa [show op.g - 1 + 1 = op.g by omega] at this
      · obtain ⟨i, hi⟩ := List.mem_iff_getElem?.1 hg
        rw [List.getElem?_drop] at hi
        obtain ⟨i', _, _, hqq⟩ := wkq (1 + i) g (by simpa [crowd] using hi) (by omega)
        exact ⟨_, hqq.leaves⟩
      · obtain ⟨i', rfl, hlt, hqq⟩ := wkq i g hg hi0
        refine ⟨(D i').fuel, ?_⟩
        have e : Deaf (t ++ MemOp.ofEvents 0 a.frame.fn a.frame.place es) (i' + 1) = (D i').deaf := by rw [Deaf_other t (by omega) _ g_of_ofEvents, h.com.deafW i' hlt]
        show Goroutine.endsWith _ _ _ _ (Deaf _ _) = _
        rw [e]
        exact hqq.hears _
    · obtain ⟨a', w', es, hgo, hD, hg'⟩ := hstep w (atR.refl w)
      exact .inr (idleC G h hmode hacq hgo hD (.ret hg') (by omega))
end

/-! The run. -/
section
variable {E : Env} {Anch : Goroutine → World → Prop} {Post : Value → World → Prop}

theorem someone {j f0 d0 : Nat} {gs : Array Goroutine} {w : World} {t : Trace} {D : Nat → WD} {S : Nat → Nat} {tag : CTag} {a : Goroutine} {st sm : Int} (hA : ∀ g w, Anch g w → g.status = .running) (ha : gs[0]? = some a) (hcs : E.csit Anch Post tag j f0 d0 a w) (hcom : E.com j gs w t D S d0) (hmode : ConcN.Mode j D tag st sm) :
    ∃ (i : Nat) (g : Goroutine), gs[i]? = some g ∧ g.status = .running := by
  have wk : ∀ i, i < j → (D i).stage ≠ 1 → ∃ (i : Nat) (g : Goroutine), gs[i]? = some g ∧ g.status = .running := fun i hi hne => by
    obtain ⟨g, hg, hs⟩ := hcom.wk i hi
    exact ⟨i + 1, g, hg, hs.run.resolve_right fun x => hne x.1⟩
  rcases hcs.run hA with ⟨hs, _⟩ | ⟨_, rfl⟩
  · exact ⟨0, a, ha, hs⟩
  · cases hmode with
    | opn h1 _ _ => exact h1.elim
    | reg _ _ h3 => obtain ⟨i, hi, h5⟩ := exists_counted h3; exact wk i hi (by omega)
    | last L _ h2 h3 _ => exact wk L h2 (by omega)
    | fin h1 _ => exact h1.elim
theorem allAwake {j f0 d0 : Nat} {gs : Array Goroutine} {w : World} {t : Trace} {D : Nat → WD} {S : Nat → Nat} {tag : CTag} {a : Goroutine} (hA : ∀ g w, Anch g w → g.status = .running) (ha : gs[0]? = some a) (hcs : E.csit Anch Post tag j f0 d0 a w) (hcom : E.com j gs w t D S d0) : ∀ g ∈ gs, awake g := by
  intro g hg tm
  obtain ⟨i, hi⟩ := Array.mem_iff_getElem?.1 hg
  cases i with
  | zero =>
    rw [ha] at hi; cases hi
    rcases hcs.run hA with ⟨hs, _⟩ | ⟨hs, _⟩ <;> rw [hs] <;> simp
  | succ i =>
    have hlt : i < j := by have := (Array.getElem?_eq_some_iff.1 hi).1; rw [hcom.size] at this; omega
    obtain ⟨g', hg', hs⟩ := hcom.wk i hlt
    rw [hi] at hg'; cases hg'
    rcases hs.run with h | ⟨_, h⟩ <;> rw [h] <;> simp

theorem oneStep (G : E.geo) (hA : ∀ g w, Anch g w → g.status = .running) (hAn : ∀ g w, Anch g w → ∃ m, Goes E.P true E.RS (E.DS E.n) (E.S1 Anch Post) m g w) :
    ∀ μ m t, E.inv Anch Post μ m t → (∃ o w ops, stepT E.P m = (.ended o w, ops) ∧ Good E.P Post m o w (t ++ ops)) ∨ (∃ m' ops μ', stepT E.P m = (.next m', ops) ∧ Lt2 μ' μ ∧ E.inv Anch Post μ' m' (t ++ ops)) := by
  rintro μ m t ⟨gs, w, sl, j, D, S, tag, f0, d0, a, st, sm, x, d, rfl, ha, hcs, hcom, hwg, hce, hdn, hmode, hhit, hacq, rfl⟩
  obtain ⟨i, g, q, sl', hg, hrun, hstep⟩ := crowd_pick (P := E.P) (w := w) (sl := sl) (allAwake hA ha hcs hcom) (someone hA ha hcs hcom hmode)
  rw [hstep]
  have hcs' := hcs.rely (Env.RS.at w q) (fun _ => ⟨q, rfl⟩)
  have hcom' := hcom.at q
  cases i with
  | zero =>
    rw [ha] at hg; cases hg
    rcases stepCaller (sl := sl') G hAn hcs' ⟨ha, hcom', hwg, hce, hdn, hhit⟩ hmode hacq hrun with ⟨o, w₁, ops, h1, h2⟩ | h
    · exact .inl ⟨o, w₁, ops, h1, h2 w sl⟩
    · exact .inr h
  | succ i =>
    have hi : i < j := by have := (Array.getElem?_eq_some_iff.1 hg).1; rw [hcom.size] at this; omega
    exact .inr (stepWorker G hA ha hcs' hcom' hwg hce hdn hmode hhit hacq hi hg hrun)

theorem runs (G : E.geo) (hA : ∀ g w, Anch g w → g.status = .running) (hAn : ∀ g w, Anch g w → ∃ m, Goes E.P true E.RS (E.DS E.n) (E.S1 Anch Post) m g w)
    (μ : Nat × Nat) (m : Machine) (t : Trace) (h : E.inv Anch Post μ m t) :
    ∃ N last o w t', runNT E.P (N + 1) m t = (.ended o w, t') ∧ runN E.P N m = .next last ∧ step E.P last = .ended o w ∧ Good E.P Post last o w t' :=
  run_of_inv (r := Lt2) (Prod.lex Nat.lt_wfRel Nat.lt_wfRel).wf (E.inv Anch Post) (Good E.P Post) (oneStep G hA hAn) μ m t h

/-- Alone: a shared cell is touched by atomic accesses only. -/
theorem ct_alone {u : Trace} (h0 : ∀ op ∈ u, op.g = 0 ∧ ∃ e, E.ok0 0 e ∧ op.act = .ofEvent e) : CT E.sh noOwn E.rdL u 0 := by
  have h : CT E.sh noOwn E.rdL #[] 0 := CT.lone (fun op hop => by simp at hop) (fun op hop => by simp at hop)
  have := h.app0 apart (u := u) (fun op hop => by
    obtain ⟨hg, e, he, ha⟩ := h0 op hop
    obtain ⟨h1, h2⟩ := he.1 op.fn op.pos
    exact ⟨hg, fun x hx => h2 x (by rw [ha] at hx; exact hx)⟩)
  simpa using this

/-- From the entry to the return, on every tape. -/
theorem join (G : E.geo) (hA : ∀ g w, Anch g w → g.status = .running) (hAn : ∀ g w, Anch g w → ∃ m, Goes E.P true E.RS (E.DS E.n) (E.S1 Anch Post) m g w) {a : Goroutine} {w : World} {n0 : Nat}
    (h : Goes E.P true Eq (DE (E.ok0 0)) (fun a' w' => E.spawns (E.fin Anch) E.n a' w' ∧ WgAt E.ty E.Wg w' 0 0 ∧ E.ce E.first w' ∧ E.dn 0 w') n0 a w) :
    ∃ N last o w' t', runNT E.P (N + 1) (solo a w) #[] = (.ended o w', t') ∧ runN E.P N (solo a w) = .next last ∧ step E.P last = .ended o w' ∧ Good E.P Post last o w' t' := by
  obtain ⟨k0, a0, w0, u, r0, ⟨hsp, hwg, hce, hdn⟩, hu⟩ := solo_goesE #[] h
  have hact : ∀ op ∈ u, ∀ m, op.act = .mark m → ∃ e, E.ok0 0 e ∧ e.loc = .mark m := fun op hop m hm => by
    obtain ⟨_, e, he, hoe⟩ := hu op hop
    exact ⟨e, he, loc_of_ofEvent (hoe ▸ hm)⟩
  have hcom : E.com 0 #[a0] w0 (#[] ++ u) (fun _ => ⟨0, 0, 0⟩) (fun _ => 0) 0 := by
    refine ⟨rfl, fun i hi => by omega, by simpa using ct_alone hu, NoRelease.app (fun i hi => by simp [Trace.act?] at hi) (fun op hop hm => ?_), ?_, fun i hi => by omega, fun i hi => by omega⟩
    · obtain ⟨e, he, hl'⟩ := hact op hop _ hm
      exact he.2.2.2 hl'
    · rw [Deaf_still #[] 0 u fun op hop => ⟨fun hm => ?_, fun hm => ?_⟩]
      · rfl
      · obtain ⟨e, he, hl'⟩ := hact op hop _ hm
        exact he.2.1 hl'
      · obtain ⟨e, he, hl'⟩ := hact op hop _ hm
        exact he.2.2.1 hl'
  have hmode : ∀ tag, isOpen tag → pend tag = 0 → (∀ vs, tag ≠ .w2 vs) → ConcN.Mode 0 (fun _ => (⟨0, 0, 0⟩ : WD)) tag 0 0 := fun tag h1 h2 h3 => by
    have := Mode.opn (j := 0) (D := fun _ => (⟨0, 0, 0⟩ : WD)) h1 (fun i hi => by omega) (fun vs e => absurd e (h3 vs))
    simpa [Vc, sumTo, h2] using this
  have hhit : E.hits 0 (fun _ => 0) E.first 0 := by
    cases hm : E.may with
    | true => exact .yet hm fun i hi => by omega
    | false => exact .no hm fun i hi => by omega
  have hInv : ∃ μ, E.inv Anch Post μ (solo a0 w0) (#[] ++ u) := by
    have hpos := G.pos
    obtain ⟨r, hr⟩ : ∃ r, E.n = r + 1 := ⟨E.n - 1, by omega⟩
    rw [hr] at hsp
    obtain ⟨m, hk⟩ := hsp
    have hc := Env.csit.skd (Post := Post) (by omega : r < E.n) hk
    rw [show E.n - (r + 1) = 0 by omega] at hc
    exact ⟨_, #[a0], w0, none, 0, _, _, .sp r 5, m, 0, a0, 0, 0, E.first, 0, rfl, rfl, hc, hcom, hwg, hce, hdn, hmode (.sp r 5) trivial rfl (by simp), hhit, by simp, rfl⟩
  obtain ⟨μ, hI⟩ := hInv
  obtain ⟨N, last, o, w'', t', e1, e2, e3, e4⟩ := runs G hA hAn μ _ _ hI
  refine ⟨k0 + N, last, o, w'', t', ?_, ?_, e3, e4⟩
  · rw [Nat.add_assoc, runNT_add, r0]; exact e1
  · rw [runN_add, ← runNT_fst E.P _ _ #[], r0]; exact e2
end
end Go.Proofs.Ytdemidfpoojkdaa.Co
