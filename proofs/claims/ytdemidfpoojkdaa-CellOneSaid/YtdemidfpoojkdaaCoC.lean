/- Workers that swap one shared word at once: a worker's step keeps what holds and lowers the measure. -/
import Derived.Test.YtdemidfpoojkdaaCoB
namespace Go.Proofs.Ytdemidfpoojkdaa.Co
open Go.Conc Go.ConcN
open Go.ConcR (KK wgBlock WgAt stA smA rd wr mk DC0 Bk g_of_ofEvents ofEvent_loc_mark ofEvent_cell ofEvent_mk loc_of_ofEvent bk_of_mute)
set_option linter.unusedVariables false
set_option linter.unusedSimpArgs false

section
variable {E : Env} {Anch : Goroutine → World → Prop} {Post : Value → World → Prop} {j : Nat} {gs : Array Goroutine} {w w' : World} {sl : Option (Nat × Nat)} {t : Trace} {D : Nat → WD} {S : Nat → Nat} {d0 f0 : Nat} {tag : CTag} {a : Goroutine} {st sm x d : Int}

theorem live_of (h1 : WgAt E.ty E.Wg w st sm) (h2 : E.ce x w) (h3 : E.dn d w) : E.live w := ⟨⟨st, sm, h1⟩, ⟨x, h2⟩, d, h3⟩
theorem deaf1 {jx : Nat} {e : Event} (he : (#[rd (stA E.Wg), wr (stA E.Wg)] : Array Event)[jx]? = some e) : (MemAct.ofEvent e).touch? = none ∨ 0 < deafBehind 1 ((#[rd (stA E.Wg), wr (stA E.Wg)] : Array Event).extract 0 jx) := by
  match jx, he with
  | 0, _ => exact .inr (by simp [deafBehind])
  | 1, _ => exact .inr (by simp [deafBehind, rd])
  | jx + 2, he => simp at he
theorem deafOne {jx : Nat} {e y : Event} (he : (#[y] : Array Event)[jx]? = some e) : (MemAct.ofEvent e).touch? = none ∨ 0 < deafBehind 1 ((#[y] : Array Event).extract 0 jx) := by
  match jx, he with
  | 0, _ => exact .inr (by simp [deafBehind])
  | jx + 1, he => simp at he
theorem deafSem {p : Addr} {jx : Nat} {e : Event} (he : (semEvents p)[jx]? = some e) : (MemAct.ofEvent e).touch? = none ∨ 0 < deafBehind 1 ((semEvents p).extract 0 jx) := by
  match jx, he with
  | 0, he => simp [semEvents] at he; subst he; exact .inl rfl
  | 1, _ => exact .inr (by simp [deafBehind, semEvents])
  | 2, _ => exact .inr (by simp [deafBehind, semEvents])
  | 3, he => simp [semEvents] at he; subst he; exact .inl rfl
  | jx + 4, he => simp [semEvents] at he
theorem two_ok {k : Nat} {p : Addr} (hp : E.three p.block) : ∀ e ∈ #[rd p, wr p], E.ok k e := by
  intro e he; simp at he; rcases he with rfl | rfl <;> exact ok_atom hp
theorem one_ok {k : Nat} {p : Addr} (hp : E.three p.block) : ∀ e ∈ #[rd p], E.ok k e := by
  intro e he; simp at he; subst he; exact ok_atom hp
theorem bkRw : ∀ e ∈ #[rd (stA E.Wg), wr (stA E.Wg)], Bk E.Wg e := by intro e he; simp at he; rcases he with rfl | rfl <;> exact bk_cell _ _ rfl
theorem bkRd : ∀ e ∈ #[rd (stA E.Wg)], Bk E.Wg e := by intro e he; simp at he; subst he; exact bk_cell _ _ rfl
theorem bkWr : ∀ e ∈ #[wr (stA E.Wg)], Bk E.Wg e := by intro e he; simp at he; subst he; exact bk_cell _ _ rfl
theorem bkDis : ∀ e ∈ #[mk .disable], Bk E.Wg e := by intro e he; simp at he; subst he; exact .inl rfl
theorem bkEn : ∀ e ∈ #[mk .enable], Bk E.Wg e := by intro e he; simp at he; subst he; exact .inr (.inl rfl)
/-- A worker still at its own work goes on within it. -/
theorem mode7 (hm : ConcN.Mode j D tag st sm) {i : Nat} (h : (D i).stage = 7) (m' dd' : Nat) : ConcN.Mode j (upd D i ⟨7, m', dd'⟩) tag st sm := by
  have := hm.same (i := i) m' dd'; rwa [h] at this
theorem quit_run {P : Program} {q : Nat} {g : Goroutine} (h : QuitsD P q 1 g) : g.status = .running := by
  cases q with
  | zero => exact absurd h.2 (by decide)
  | succ q => exact h.elim (fun x => absurd x.2 (by decide)) (fun x => x.1)

set_option maxHeartbeats 2000000 in
theorem stepWorker (G : E.geo) (hA : ∀ g w, Anch g w → g.status = .running) (ha : gs[0]? = some a) (hcs : E.csit Anch Post tag j f0 d0 a w) (hcom : E.com j gs w t D S d0)
    (hwg : WgAt E.ty E.Wg w st sm) (hce : E.ce x w) (hdn : E.dn d w) (hmode : ConcN.Mode j D tag st sm) (hhit : E.hits j S x d) (hacq : tag = .ret → AcqAll E.Wg j t)
    {i : Nat} (hi : i < j) {g : Goroutine} (hg : gs[i + 1]? = some g) (hrun : g.status = .running) : E.nextOk Anch Post (i + 1) (E.mu j D S tag f0) gs w sl t := by
  obtain ⟨g₁, hg₁, hs⟩ := hcom.wk i hi
  obtain rfl : g = g₁ := by rw [hg] at hg₁; exact Option.some.inj hg₁
  generalize hst : (D i).stage = s at hs
  generalize hfu : (D i).fuel = m at hs
  generalize hde : (D i).deaf = dd at hs
  generalize hsu : S i = u at hs
  have hb := hcs.bound
  have hVj := Vc_le j D
  have hdk : Deaf t (i + 1) = dd := by rw [hcom.deafW i hi, hde]
  have nr : s ≠ 1 → tag ≠ .ret := fun h => hmode.not_ret hi (by omega)
  have rf := Env.RK.refl (E := E) (Low := E.Lw (i + 1)) w
  -- ahead of the release: nothing but the two shared cells turns
  have early : ∀ {g' : Goroutine} {w' : World} {es : Array Event} {u' m' : Nat} {x' d' : Int}, s = 7 → dd = 0 → stepG E.P false g w = .go g' w' es → E.RS w w' → (∀ e ∈ es, E.ok (i + 1) e) → E.ksit (i + 1) 7 u' m' 0 g' w' →
      WgAt E.ty E.Wg w' st sm → E.ce x' w' → E.dn d' w' → E.hits j (upd S i u') x' d' → (u' < u ∨ (u' = u ∧ m' + 1 = m)) → E.nextOk Anch Post (i + 1) (E.mu j D S tag f0) gs w sl t := by
    intro g' w' es u' m' x' d' h7 hd0 hgo hr hev hs' hwg' hce' hdn' hh' hlt
    subst h7; subst hd0
    exact workerStep G hA ha hcs hcom hi hg hgo hr (fun e => absurd e (nr (by omega))) hs' (okW_of hev) (fun e he => (hev e he).2.2.2) (by rw [hde]; exact deafBehind_idle (fun e he => ⟨(hev e he).2.1, (hev e he).2.2.1⟩) 0)
      (fun h => by omega) hwg' hce' hdn' (fun _ ht _ => Mode.retag (mode7 hmode hst _ _) ht) hh' (fun e => absurd e (nr (by omega)))
      (by rw [hst, hsu, hfu]; rcases hlt with h | ⟨h1, h2⟩
          · exact .inl ⟨by omega, by simp [cnt, hst]⟩
          · exact .inr ⟨rfl, h1, h2⟩)
  have idle : ∀ {g' : Goroutine} {w' : World} {es : Array Event} {m' : Nat}, s = 7 → dd = 0 → stepG E.P false g w = .go g' w' es → E.DK (i + 1) w w' es → E.ksit (i + 1) 7 u m' 0 g' w' → m' + 1 = m → E.nextOk Anch Post (i + 1) (E.mu j D S tag f0) gs w sl t := by
    rintro g' w' es m' h7 hd0 hgo ⟨rfl, hev⟩ hs' hm
    exact early h7 hd0 hgo (.refl _) hev hs' hwg hce hdn (hhit.same (upd_id i u hsu)) (.inr ⟨rfl, hm⟩)
  -- behind the release: the group's block alone turns
  have bookG : ∀ {g' : Goroutine} {w' : World} {es : Array Event} {s' m' dd' : Nat} {st' sm' : Int}, u = 0 → stepG E.P false g w = .go g' w' es → Aside E.Wg w w' → (tag = .ret → w' = w) → WgAt E.ty E.Wg w' st' sm' → (∀ e ∈ es, Bk E.Wg e) →
      (∀ jx e, es[jx]? = some e → (MemAct.ofEvent e).touch? = none ∨ 0 < deafBehind dd (es.extract 0 jx)) → E.ksit (i + 1) s' 0 m' dd' g' w' → deafBehind dd es = dd' → s ≤ 6 →
      (∀ tag', (tag' = tag ∨ (tag = .blk ∧ tag' = .w3)) → (mayWake E.P g = true → g'.status = .running → tag' ≠ .blk) → ConcN.Mode j (upd D i ⟨s', m', dd'⟩) tag' st' sm') → (tag = .ret → AcqAll E.Wg j (t ++ MemOp.ofEvents (i + 1) g.frame.fn g.frame.place es)) →
      ((s' < s ∧ cnt ⟨s', m', dd'⟩ ≤ cnt (D i)) ∨ (s' = s ∧ m' + 1 = m)) → E.nextOk Anch Post (i + 1) (E.mu j D S tag f0) gs w sl t := by
    intro g' w' es s' m' dd' st' sm' hu hgo hAs heq hwg' hbk hd hs' hdd h6 hmode' hacq' hlt
    subst hu
    have hce' : E.ce x w' := (hAs.block _ G.wc).trans hce
    have hdn' : E.dn d w' := (hAs.block _ G.wd).trans hdn
    exact workerStep G hA ha hcs hcom hi hg hgo (.turn hAs (.inl rfl) fun _ => live_of hwg' hce' hdn') heq hs' (okW_bk hbk) (norel_of_Bk hbk) (by rw [hde]; exact hdd)
      (fun _ => let ⟨r, hr⟩ := hcom.rel i hi (by omega); ⟨r, hr.book hdk _ _ hbk hd⟩) hwg' hce' hdn' hmode' (hhit.same (upd_id i 0 hsu)) hacq'
      (by rw [hst, hsu, hfu]; rcases hlt with ⟨h1, h2⟩ | ⟨h1, h2⟩
          · exact .inl ⟨by omega, h2⟩
          · exact .inr ⟨h1, rfl, h2⟩)
  have book : ∀ {g' : Goroutine} {w' : World} {es : Array Event} {s' m' dd' : Nat} {st' sm' : Int}, u = 0 → s ≠ 1 → stepG E.P false g w = .go g' w' es → Aside E.Wg w w' → WgAt E.ty E.Wg w' st' sm' → (∀ e ∈ es, Bk E.Wg e) →
      (∀ jx e, es[jx]? = some e → (MemAct.ofEvent e).touch? = none ∨ 0 < deafBehind dd (es.extract 0 jx)) → E.ksit (i + 1) s' 0 m' dd' g' w' → deafBehind dd es = dd' → s ≤ 6 →
      ConcN.Mode j (upd D i ⟨s', m', dd'⟩) tag st' sm' → ((s' < s ∧ cnt ⟨s', m', dd'⟩ ≤ cnt (D i)) ∨ (s' = s ∧ m' + 1 = m)) → E.nextOk Anch Post (i + 1) (E.mu j D S tag f0) gs w sl t :=
    fun hu h1 hgo hAs hwg' hbk hd hs' hdd h6 hmode' hlt => bookG hu hgo hAs (fun e => absurd e (nr h1)) hwg' hbk hd hs' hdd h6 (fun _ ht _ => hmode'.retag ht) (fun e => absurd e (nr h1)) hlt
  have still : ∀ {g' : Goroutine} {w' : World} {es : Array Event} {m' : Nat}, u = 0 → s ≤ 6 → s ≠ 1 → stepG E.P false g w = .go g' w' es → DC0 w w' es → E.ksit (i + 1) s 0 m' dd g' w' → m' + 1 = m → E.nextOk Anch Post (i + 1) (E.mu j D S tag f0) gs w sl t := by
    rintro g' w' es m' hu h6 h1 hgo ⟨rfl, rfl⟩ hs' hm
    exact book hu h1 hgo (.refl E.Wg _) hwg (by simp) (by simp) hs' rfl h6 (by have := hmode.same (i := i) m' dd; rwa [hst] at this) (.inr ⟨rfl, hm⟩)
  cases hs with
  | cas h =>
    rcases Goes.cases h with hstop | ⟨m', rfl, hstep⟩
    · obtain ⟨_, hh, hm⟩ := hstop w rf
      have miss : ∀ {x' d' : Int}, E.hits j (upd S i 0) x' d' → x' = x → d' = d → E.ce E.next w → E.nextOk Anch Post (i + 1) (E.mu j D S tag f0) gs w sl t := by
        rintro x' d' hh' rfl rfl hx
        obtain ⟨g', hgo, m₂, hk⟩ := hm hx
        exact early rfl rfl hgo (.refl w) (one_ok (.inr (.inl rfl))) (.rel hk) hwg hce hdn hh' (.inl (by omega))
      cases hhit with
      | no h1 h2 => have := h2 i hi; omega
      | yet h1 h2 =>
        obtain ⟨g', hgo, m₂, hk⟩ := hh hce
        have hA3 := aside_setCell w E.ceA (.int .u64 E.next)
        have hwg' : WgAt E.ty E.Wg (w.setCell E.ceA (.int .u64 E.next)) st sm := hwg.of_block (hA3.block _ (Ne.symm G.wc))
        have hdn' : E.dn 0 (w.setCell E.ceA (.int .u64 E.next)) := (hA3.block _ G.cd).trans hdn
        have hce' := hce.turn E.next
        exact early rfl rfl hgo (.turn hA3 (.inr (.inl rfl)) fun _ => live_of hwg' hce' hdn') (two_ok (.inr (.inl rfl))) (.add hk) hwg' hce' hdn'
          (.hit i h1 hi (upd_same _ _ _) fun i' hi' hne => by rw [upd_ne S _ hne, h2 i' hi']; omega) (.inl (by omega))
      | hit L h1 h2 h3 h4 =>
        have hne : L ≠ i := fun e => by subst e; omega
        exact miss (.hit L h1 h2 (by rw [upd_ne S _ hne]; exact h3) fun i' hi' e => by
          by_cases e' : i' = i
          · subst e'; rw [upd_same]; omega
          · rw [upd_ne S _ e']; exact h4 i' hi' e) rfl rfl hce
      | done L h1 h2 h3 h4 =>
        have hne : L ≠ i := fun e => by subst e; omega
        exact miss (.done L h1 h2 (by rw [upd_ne S _ hne]; exact h3) fun i' hi' => by
          by_cases e' : i' = i
          · subst e'; rw [upd_same]; omega
          · rw [upd_ne S _ e']; exact h4 i' hi') rfl rfl hce
    · obtain ⟨g', w', es, hgo, hD, hg'⟩ := hstep w rf
      exact idle rfl rfl hgo hD (.cas hg') (by omega)
  | add h =>
    rcases Goes.cases h with hstop | ⟨m', rfl, hstep⟩
    · obtain ⟨_, hh⟩ := hstop w rf
      cases hhit with
      | no h1 h2 => have := h2 i hi; omega
      | yet h1 h2 => have := h2 i hi; omega
      | done L h1 h2 h3 h4 => exact absurd hsu (h4 i hi)
      | hit L h1 h2 h3 h4 =>
        have e : i = L := Decidable.byContradiction fun e => h4 i hi e hsu
        subst e
        obtain ⟨g', hgo, m₂, hk⟩ := hh hdn
        have hA3 := aside_setCell w E.dnA (.int .i64 1)
        have hwg' : WgAt E.ty E.Wg (w.setCell E.dnA (.int .i64 1)) st sm := hwg.of_block (hA3.block _ (Ne.symm G.wd))
        have hce' : E.ce E.next (w.setCell E.dnA (.int .i64 1)) := (hA3.block _ (Ne.symm G.cd)).trans hce
        have hdn' := hdn.turn 1
        exact early rfl rfl hgo (.turn hA3 (.inr (.inr rfl)) fun _ => live_of hwg' hce' hdn') (two_ok (.inr (.inr rfl))) (.rel hk) hwg' hce' hdn'
          (.done i h1 hi (upd_same _ _ _) fun i' hi' => by
            by_cases e' : i' = i
            · subst e'; rw [upd_same]; omega
            · rw [upd_ne S _ e']; exact h4 i' hi' e') (.inl (by omega))
    · obtain ⟨g', w', es, hgo, hD, hg'⟩ := hstep w rf
      exact idle rfl rfl hgo hD (.add hg') (by omega)
  | rel h =>
    rcases Goes.cases h with hstop | ⟨m', rfl, hstep⟩
    · obtain ⟨_, g', hgo, m₂, hk⟩ := hstop w rf
      exact workerStep G hA ha hcs hcom hi hg hgo (.refl w) (fun _ => rfl) (.dis hk) (okW_none' (by intro e he; simp at he; subst he; rfl)) (by intro e he; simp at he; subst he; simp [mk]) (by rw [hde]; rfl)
        (fun _ => ⟨t.size, RelBy.new hdk _ _⟩) hwg hce hdn (fun _ ht _ => (hmode.counted hi (by omega) (.inl rfl) _ _).retag ht) (hhit.same (upd_id i 0 hsu)) (fun e => absurd e (nr (by omega))) (.inl ⟨by omega, by simp [cnt, hst]⟩)
    · obtain ⟨g', w', es, hgo, hD, hg'⟩ := hstep w rf
      exact idle rfl rfl hgo hD (.rel hg') (by omega)
  | dis h =>
    rcases Goes.cases h with hstop | ⟨m', rfl, hstep⟩
    · obtain ⟨_, g', hgo, m₂, hk⟩ := hstop w rf
      exact book rfl (by omega) hgo (.refl E.Wg w) hwg bkDis (by intro jx e he; exact .inl (by have := Array.mem_of_getElem? he; simp at this; subst this; rfl)) (.neg hk) rfl (by omega) (hmode.counted hi (by omega) (.inr rfl) _ _) (.inl ⟨by omega, by simp [cnt, hst]⟩)
    · obtain ⟨g', w', es, hgo, hD, hg'⟩ := hstep w rf
      obtain ⟨rfl, rfl⟩ := hD
      exact still rfl (by omega) (by omega) hgo ⟨rfl, rfl⟩ (.dis hg') rfl
  | neg h =>
    rcases Goes.cases h with hstop | ⟨m', rfl, hstep⟩
    · obtain ⟨_, hall⟩ := hstop w rf
      have hc1 : cnt (D i) = 1 := by simp [cnt, hst]
      have hV1 : 1 ≤ Vc j D := by have := le_sumTo (f := fun x => cnt (D x)) hi; simp only [Vc]; omega
      have hq0 : ∀ q, cnt (⟨1, q, 1⟩ : WD) = 0 := fun _ => rfl
      have opq : ∀ q, OpenSt j D → OpenSt j (upd D i ⟨1, q, 1⟩) := fun q h b hb => by
        by_cases e : b = i
        · subst e; rw [upd_same]; simp
        · rw [upd_ne D _ e]; exact h b hb
      have hn31 := G.n31
      cases hmode with
      | opn h1 h2 h3 =>
        obtain ⟨v, hv⟩ : ∃ v, Vc j D + pend tag = v + 1 := ⟨Vc j D + pend tag - 1, by omega⟩
        rw [hv] at hwg
        obtain ⟨g', hgo, _, hq⟩ := hall v 0 (by omega) (by omega) (by simpa using hwg)
        obtain ⟨q, hq⟩ := hq (by omega)
        have hv' : Vc j (upd D i ⟨1, q, 1⟩) + pend tag = v := by have := Vc_upd D (⟨1, q, 1⟩ : WD) hi; have := hq0 q; omega
        refine book rfl (by omega) hgo (aside_setCell w (stA E.Wg) _) (hwg.setSt _) bkRw (fun _ _ h => deaf1 h) (.quit hq) rfl (by omega) ?_ (.inl ⟨by omega, by simp [cnt]⟩)
        have e : ((v : Nat) : Int) * KK + ((0 : Nat) : Int) = ((Vc j (upd D i ⟨1, q, 1⟩) + pend tag : Nat) : Int) * KK := by rw [hv']; simp
        rw [e]
        exact .opn h1 (opq q h2) (fun vs ev => by have := h3 vs ev; omega)
      | reg h1 h2 h3 =>
        obtain ⟨v, hv⟩ : ∃ v, Vc j D = v + 1 := ⟨Vc j D - 1, by omega⟩
        rw [hv] at hwg
        have hp : pend tag = 0 := by cases tag <;> first | rfl | exact h1.elim
        obtain ⟨g', hgo, hlast, hq⟩ := hall v 1 (by omega) (by omega) (by simpa using hwg)
        by_cases hv0 : v = 0
        · subst hv0
          obtain ⟨m₂, hk⟩ := hlast ⟨rfl, rfl⟩
          refine book rfl (by omega) hgo (aside_setCell w (stA E.Wg) _) (hwg.setSt _) bkRw (fun _ _ h => deaf1 h) (.l4 hk) rfl (by omega) ?_ (.inl ⟨by omega, by simp [cnt]⟩)
          have hoth : ∀ b, b < j → b ≠ i → (D b).stage = 1 := fun b hb e => by
            have c0 := others_uncounted hi hv hc1 b hb e
            have := h2 b hb
            simp only [cnt] at c0
            split at c0 <;> omega
          have := Mode.last (j := j) (D := upd D i ⟨4, m₂, 1⟩) (tag := tag) i h1 hi (by rw [upd_same]; simp) (fun b hb e => by rw [upd_ne D _ e]; exact hoth b hb e)
          rw [upd_same] at this
          simpa using this
        · obtain ⟨q, hq⟩ := hq (by omega)
          have hv' : Vc j (upd D i ⟨1, q, 1⟩) = v := by have := Vc_upd D (⟨1, q, 1⟩ : WD) hi; have := hq0 q; omega
          refine book rfl (by omega) hgo (aside_setCell w (stA E.Wg) _) (hwg.setSt _) bkRw (fun _ _ h => deaf1 h) (.quit hq) rfl (by omega) ?_ (.inl ⟨by omega, by simp [cnt]⟩)
          have e : ((v : Nat) : Int) * KK + ((1 : Nat) : Int) = ((Vc j (upd D i ⟨1, q, 1⟩) : Nat) : Int) * KK + 1 := by rw [hv']; simp
          rw [e]
          exact .reg h1 (opq q h2) (by omega)
      | last L _ h2 h3 h4 =>
        by_cases e : i = L
        · subst e; omega
        · have := h4 i hi e; omega
      | sema h2 => have := h2 i hi; omega
      | fin _ h2 => have := h2 i hi; omega
    · obtain ⟨g', w', es, hgo, hD, hg'⟩ := hstep w rf
      obtain ⟨rfl, rfl⟩ := hD
      exact still rfl (by omega) (by omega) hgo ⟨rfl, rfl⟩ (.neg hg') rfl
  | l4 h =>
    rcases Goes.cases h with hstop | ⟨m', rfl, hstep⟩
    · obtain ⟨_, hx⟩ := hstop w rf
      obtain ⟨hW3, hoth, rfl, rfl⟩ := hmode.isLast hi (by omega)
      simp only [hst] at hwg
      obtain ⟨g', hgo, m₂, hk⟩ := hx (by simpa using hwg)
      refine book rfl (by omega) hgo (.refl E.Wg w) hwg bkRd (fun _ _ h => deafOne h) (.l3 hk) rfl (by omega) ?_ (.inl ⟨by omega, by simp [cnt]⟩)
      have := Mode.last (j := j) (D := upd D i ⟨3, m₂, 1⟩) (tag := tag) i hW3 hi (by rw [upd_same]; simp) (fun b hb e => by rw [upd_ne D _ e]; exact hoth b hb e)
      rw [upd_same] at this
      simpa using this
    · obtain ⟨g', w', es, hgo, hD, hg'⟩ := hstep w rf
      obtain ⟨rfl, rfl⟩ := hD
      exact still rfl (by omega) (by omega) hgo ⟨rfl, rfl⟩ (.l4 hg') rfl
  | l3 h =>
    rcases Goes.cases h with hstop | ⟨m', rfl, hstep⟩
    · obtain ⟨_, hx⟩ := hstop w rf
      obtain ⟨hW3, hoth, rfl, rfl⟩ := hmode.isLast hi (by omega)
      simp only [hst] at hwg
      obtain ⟨g', hgo, m₂, hk⟩ := hx (by simpa using hwg)
      refine book rfl (by omega) hgo (aside_setCell w (stA E.Wg) _) (hwg.setSt 0) bkWr (fun _ _ h => deafOne h) (.l2 hk) rfl (by omega) ?_ (.inl ⟨by omega, by simp [cnt]⟩)
      have := Mode.last (j := j) (D := upd D i ⟨2, m₂, 1⟩) (tag := tag) i hW3 hi (by rw [upd_same]; simp) (fun b hb e => by rw [upd_ne D _ e]; exact hoth b hb e)
      rw [upd_same] at this
      simpa using this
    · obtain ⟨g', w', es, hgo, hD, hg'⟩ := hstep w rf
      obtain ⟨rfl, rfl⟩ := hD
      exact still rfl (by omega) (by omega) hgo ⟨rfl, rfl⟩ (.l3 hg') rfl
  | l2 h =>
    rcases Goes.cases h with hstop | ⟨m', rfl, hstep⟩
    · obtain ⟨_, hmw, hx⟩ := hstop w rf
      obtain ⟨hW3, hoth, rfl, rfl⟩ := hmode.isLast hi (by omega)
      simp only [hst] at hwg
      obtain ⟨g', hgo, q, hq⟩ := hx (by simpa using hwg)
      refine bookG rfl hgo (aside_setCell w (smA E.Wg) _) (fun e => absurd e (nr (by omega))) (hwg.setSm 1) (es := semEvents (smA E.Wg)) bk_sem (fun _ _ h => deafSem h) (.quit hq) (by simp [deafBehind, semEvents]) (by omega) ?_ (fun e => absurd e (nr (by omega))) (.inl ⟨by omega, by simp [cnt]⟩)
      intro tag' ht hw
      have hnb := hw hmw (quit_run hq)
      have e3 : tag' = .w3 := by
        rcases ht with rfl | ⟨_, rfl⟩
        · cases tag' <;> first | rfl | exact hW3.elim | exact absurd rfl hnb
        · rfl
      subst e3
      simp only [if_true]
      exact .sema fun b hb => by
        by_cases e : b = i
        · subst e; rw [upd_same]
        · rw [upd_ne D _ e]; exact hoth b hb e
    · obtain ⟨g', w', es, hgo, hD, hg'⟩ := hstep w rf
      obtain ⟨rfl, rfl⟩ := hD
      exact still rfl (by omega) (by omega) hgo ⟨rfl, rfl⟩ (.l2 hg') rfl
  | quit h =>
    cases m with
    | zero => rw [h.1] at hrun; cases hrun
    | succ q =>
      rcases h with ⟨hf, _⟩ | ⟨_, g', es, hmute, hstep, hq⟩
      · rw [hf] at hrun; cases hrun
      · have hbk : ∀ e ∈ es, Bk E.Wg e := fun e he => bk_of_mute (hmute e he)
        have hno : ∀ jx e, es[jx]? = some e → (MemAct.ofEvent e).touch? = none ∨ 0 < deafBehind dd (es.extract 0 jx) := fun jx e he => .inl (by
          rcases bk_of_mute (Wg := E.Wg) (hmute e (Array.mem_of_getElem? he)) with h1 | h1 | ⟨a, wr, rfl, _⟩
          · rw [ofEvent_loc_mark h1]; rfl
          · rw [ofEvent_loc_mark h1]; rfl
          · have := hmute _ (Array.mem_of_getElem? he); simp [Event.mute] at this)
        refine bookG rfl (hstep w) (.refl E.Wg w) (fun _ => rfl) hwg hbk hno (.quit hq) rfl (by omega) (fun _ ht _ => Mode.retag (by have := hmode.same (i := i) q (deafBehind dd es); rwa [hst] at this) ht) (fun e => (hacq e).app fun i' r hi' hr => ?_) (.inr ⟨rfl, rfl⟩)
        by_cases e' : i' = i
        · subst e'; exact hr.book hdk _ _ hbk hno
        · exact hr.appOther g_of_ofEvents (by omega)
end
end Go.Proofs.Ytdemidfpoojkdaa.Co
