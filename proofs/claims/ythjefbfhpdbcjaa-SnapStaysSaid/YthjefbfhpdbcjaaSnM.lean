/- A region that draws its order: as Mix, with facts that later blocks leave alone: calls of one value are taken as soon as they may come up, and two that may come up are both followed. -/
import Derived.Test.YthjefbfhpdbcjaaSnB
namespace Go.Proofs.Ythjefbfhpdbcjaa
set_option linter.unusedVariables false
/-- w' is w with new blocks. -/
def Up (w w' : World) : Prop := RowKit.Below w.heap.size w w'
theorem Up.refl (w : World) : Up w w := RowKit.Below.refl _ _
theorem Up.trans {a b c : World} (h : Up a b) (h' : Up b c) : Up a c := below_step h h.size h'
section
variable {P : Program} {ops : Array Oper} {md : Region.Mode} {C : World → Prop}

/-- One value, in whatever world of the class; new blocks at most. -/
def calmUpon (P : Program) (C : World → Prop) (w : World) (v : Value) : Result Next → Prop
  | .ok (.value u) w' => C w' ∧ Up w w' ∧ u = v
  | .ok .skip w' => C w' ∧ Up w w' ∧ v = undef
  | .ok (.enter f args) w' => Calls P f args w' (fun e w'' => e = .returned v ∧ C w'' ∧ Up w w'')
  | _ => False
attribute [go_sem] calmUpon
def CalmIn (P : Program) (ops : Array Oper) (C : World → Prop) (o : Oper) (v : Value) (a : Act) : Prop :=
  (Region.wanted o (yielded ops a.tmps) = true ∧ ∀ w, C w → calmUpon P C w v ((execOp a.eval o).run P w)) ∨ (Region.wanted o (yielded ops a.tmps) = false ∧ v = undef)
theorem CalmIn.mOp {i : Nat} {o : Oper} {v : Value} {a : Act} {w : World} (hi : ops[i]? = some o) (hy : CalmIn P ops C o v a) (hC : C w) {K : Act → World → Prop} (h : ∀ w', C w' → Up w w' → K (a.put o.dst v) w') : mOp P ops C i K a w := by
  unfold Go.Proofs.Ythjefbfhpdbcjaa.mOp
  simp only [hi]
  rcases hy with ⟨hw, hv⟩ | ⟨hw, rfl⟩
  · simp only [hw, if_true]
    have := hv w hC
    generalize (execOp a.eval o).run P w = r at *
    cases r with
    | ok n w' =>
      cases n <;> simp only [calmUpon] at this <;> simp only [mixUpon]
      case value u => obtain ⟨h1, h2, rfl⟩ := this; exact ⟨h1, h _ h1 h2⟩
      case skip => obtain ⟨h1, h2, rfl⟩ := this; exact ⟨h1, h _ h1 h2⟩
      case enter f args => exact this.mono fun e w'' ⟨he, h1, h2⟩ => ⟨v, he, h1, h _ h1 h2⟩
    | halt x w' => simp only [calmUpon] at this
  · simp only [hw, Bool.false_eq_true, if_false]; exact h _ hC (Up.refl _)
theorem CalmIn.of_same {o : Oper} {v : Value} {a a' : Act} (hy : CalmIn P ops C o v a) (he : execOp a'.eval o = execOp a.eval o)
    (hw : Region.wanted o (yielded ops a'.tmps) = Region.wanted o (yielded ops a.tmps)) : CalmIn P ops C o v a' := by
  unfold CalmIn at *
  rw [he, hw]
  exact hy
theorem StillIn.calm {o : Oper} {v : Value} {a : Act} (h : StillIn P ops C o v a) : CalmIn P ops C o v a := by
  rcases h with ⟨hw, hv⟩ | h
  · refine .inl ⟨hw, fun w hC => ?_⟩
    have := hv w hC
    generalize (execOp a.eval o).run P w = r at *
    cases r with
    | ok n w' =>
      cases n <;> simp only [stillUpon] at this <;> simp only [calmUpon]
      case value u => obtain ⟨rfl, rfl⟩ := this; exact ⟨hC, Up.refl _, rfl⟩
      case skip => obtain ⟨rfl, rfl⟩ := this; exact ⟨hC, Up.refl _, rfl⟩
    | halt x w' => simp only [stillUpon] at this
  · exact .inr h
theorem mOp_putC {j : Nat} {oi oj : Oper} {v : Value} (hj : ops[j]? = some oj) (hap : oi.apart ops oj = true)
    (hsi : ∀ cs b, oi.op ≠ .select cs b) (hsj : ∀ cs b, oj.op ≠ .select cs b) {K : Act → World → Prop} {a : Act} {w : World}
    (hy : CalmIn P ops C oi v a) (h : mOp P ops C j K (a.put oi.dst v) w) :
    mOp P ops C j (fun a' w' => CalmIn P ops C oi v a' ∧ K (a'.put oi.dst v) w') a w := by
  obtain ⟨h1, h2, h3⟩ := Oper.apart_spec hap
  have keep : ∀ u, CalmIn P ops C oi v (a.put oj.dst u) := fun u => hy.of_same (execOp_put oi hsi a oj.dst u h3) (wanted_put oi a oj.dst u h3)
  unfold mOp at *
  simp only [hj] at *
  rw [wanted_put oj a oi.dst v h1] at h
  split
  · rename_i hw
    simp only [hw, if_true] at h
    rw [execOp_put oj hsj a oi.dst v h1] at h
    refine mixUpon_mono (C := C) (K := fun u w' => K ((a.put oi.dst v).put oj.dst u) w') (fun u w' _ hk => ⟨keep u, ?_⟩) h
    rw [← Act.put_comm a v u h2]; exact hk
  · rename_i hw
    simp only [hw] at h
    exact ⟨keep _, by rw [← Act.put_comm a v undef h2]; exact h⟩

def wpHeadS (P : Program) (md : Region.Mode) (ops : Array Oper) (C : World → Prop) (L : Array Bool → Act → World → Prop) : Nat → Array Bool → Act → World → Prop
  | 0, listed, a, w => L listed a w
  | f + 1, listed, a, w => Region.ready md ops listed ≠ [] ∧ ∀ i ∈ Region.ready md ops listed, mOp P ops C i (fun a' w' => ∀ w'', C w'' → Up w' w'' → wpHeadS P md ops C L f (listed.setIfInBounds i true) a' w'') a w
theorem wpAny_of_headS {g : Nat} {L : Array Bool → Act → World → Prop} {Q' : Exit → Act → World → Prop} (hL : ∀ listed a w, C w → L listed a w → wpAny P md ops Q' g listed a w) :
    ∀ (f : Nat) (listed : Array Bool) (a : Act) (w : World), C w → wpHeadS P md ops C L f listed a w → wpAny P md ops Q' (f + g) listed a w
  | 0, listed, a, w, hw, h => by rw [Nat.zero_add]; exact hL _ _ _ hw h
  | f + 1, listed, a, w, hw, h => by
    rw [show f + 1 + g = (f + g) + 1 by omega]
    exact ⟨fun h0 => absurd h0 h.1, fun i hi => wpOp_of_mOp hw (fun a' w' hw' h' => wpAny_of_headS hL f _ a' w' hw' (h' w' hw' (Up.refl _))) (h.2 i hi)⟩

theorem wpHeadS_first {i : Nat} {oi : Oper} {v : Value} {L : Array Bool → Act → World → Prop} (hi : ops[i]? = some oi) (hsel : ∀ (j : Nat) (o : Oper) cs b, ops[j]? = some o → o.op ≠ .select cs b)
    (hdone : ∀ listed a w, L listed a w → Region.ready md ops listed = []) :
    ∀ (f : Nat) (listed : Array Bool) (a : Act) (w : World), C w →
      (∀ j oj, ops[j]? = some oj → j ≠ i → listed.getD j true = false → (∀ e ∈ oj.after, Region.binds md e = true → e.on ≠ i) → oi.apart ops oj = true) →
      i ∈ Region.ready md ops listed → CalmIn P ops C oi v a →
      (∀ w', C w' → Up w w' → wpHeadS P md ops C L f (listed.setIfInBounds i true) (a.put oi.dst v) w') → wpHeadS P md ops C L (f + 1) listed a w := by
  intro f
  induction f with
  | zero =>
    intro listed a w hC _ hr hy H
    have hun := (mem_ready.1 hr).1
    refine ⟨fun h => (by rw [h] at hr; cases hr), fun j hj => ?_⟩
    by_cases hji : j = i
    · subst hji
      exact hy.mOp hi hC fun w' hC' hu w'' hC'' hu' => H w'' hC'' (hu.trans hu')
    · have h1 := hdone _ _ _ (H w hC (Up.refl _))
      have h2 := ready_mono hj hji
      rw [h1] at h2; cases h2
  | succ f ih =>
    intro listed a w hC hfree hr hy H
    have hun := (mem_ready.1 hr).1
    refine ⟨fun h => (by rw [h] at hr; cases hr), fun j hj => ?_⟩
    by_cases hji : j = i
    · subst hji
      exact hy.mOp hi hC fun w' hC' hu w'' hC'' hu' => H w'' hC'' (hu.trans hu')
    · have h1 := (H w hC (Up.refl _)).2 j (ready_mono hj hji)
      obtain ⟨hjun, oj, hoj, hall⟩ := mem_ready.1 hj
      have hnot : ∀ e ∈ oj.after, Region.binds md e = true → e.on ≠ i := fun e he hb heq => by
        have h1 := hall e he hb
        rw [heq, getD_both hun] at h1
        cases h1
      have h2 := mOp_putC hoj (hfree j oj hoj hji hjun hnot) (fun cs b => hsel i oi cs b hi) (fun cs b => hsel j oj cs b hoj) hy h1
      have hfree' : ∀ k ok, ops[k]? = some ok → k ≠ i → (listed.setIfInBounds j true).getD k true = false →
          (∀ e ∈ ok.after, Region.binds md e = true → e.on ≠ i) → oi.apart ops ok = true := fun k ok hk hki hunk hno => by
        refine hfree k ok hk hki ?_ hno
        by_cases hjk : j = k
        · subst hjk; exact hjun
        · rw [getD_set_ne true hjk] at hunk; exact hunk
      refine mOp_mono hC (fun a' w' hC' h3 w'' hC'' hu => ih (listed.setIfInBounds j true) a' w'' hC'' hfree' (ready_mono hr (Ne.symm hji)) h3.1 fun w1 hC1 hu1 => ?_) h2
      rw [Array.setIfInBounds_comm _ _ hji]
      exact h3.2 w1 hC1 (hu.trans hu1)

theorem wpHeadS_still {i : Nat} {oi : Oper} {v : Value} {L : Array Bool → Act → World → Prop} (hi : ops[i]? = some oi) (hsel : ∀ (j : Nat) (o : Oper) cs b, ops[j]? = some o → o.op ≠ .select cs b)
    (hdone : ∀ listed a w, L listed a w → Region.ready md ops listed = []) (hst : ∀ {listed a} {w w' : World}, L listed a w → Up w w' → L listed a w') :
    ∀ (f : Nat) (listed : Array Bool) (a : Act) (w : World), C w →
      (∀ j oj, ops[j]? = some oj → j ≠ i → listed.getD j true = false → (∀ e ∈ oj.after, Region.binds md e = true → e.on ≠ i) → oi.apart ops oj = true) →
      i ∈ Region.ready md ops listed → StillIn P ops C oi v a →
      (∀ w', C w' → Up w w' → wpHeadS P md ops C L f (listed.setIfInBounds i true) (a.put oi.dst v) w') → wpHeadS P md ops C L (f + 1) listed a w :=
  fun f listed a w hC hfree hr hy H => wpHeadS_first hi hsel hdone f listed a w hC hfree hr hy.calm H

/-! ### An order that is given -/
inductive Ordr where
  | nil : Ordr
  | calm (i : Nat) (r : Ordr) : Ordr
  | sole (i : Nat) (r : Ordr) : Ordr
  | fork (i j : Nat) (r s : Ordr) : Ordr
def Ordr.len : Ordr → Nat
  | .nil => 0
  | .calm _ r => r.len + 1
  | .sole _ r => r.len + 1
  | .fork _ _ r _ => r.len + 1
def ordBS (md : Region.Mode) (ops : Array Oper) : Ordr → Array Bool → Bool
  | .nil, listed => (Region.ready md ops listed).isEmpty
  | .calm i r, listed => (Region.ready md ops listed).contains i && Region.free md ops listed i && ordBS md ops r (listed.setIfInBounds i true)
  | .sole i r, listed => decide (Region.ready md ops listed = [i]) && ordBS md ops r (listed.setIfInBounds i true)
  | .fork i j r s, listed => decide (Region.ready md ops listed = [i, j]) && decide (r.len = s.len) && ordBS md ops r (listed.setIfInBounds i true) && ordBS md ops s (listed.setIfInBounds j true)
def wpOrdS (P : Program) (ops : Array Oper) (C : World → Prop) (Lq : Act → World → Prop) : Ordr → Act → World → Prop
  | .nil, a, w => Lq a w
  | .calm i r, a, w => ∃ o v, ops[i]? = some o ∧ CalmIn P ops C o v a ∧ ∀ w', C w' → Up w w' → wpOrdS P ops C Lq r (a.put o.dst v) w'
  | .sole i r, a, w => mOp P ops C i (fun a' w' => ∀ w'', C w'' → Up w' w'' → wpOrdS P ops C Lq r a' w'') a w
  | .fork i j r s, a, w => mOp P ops C i (fun a' w' => ∀ w'', C w'' → Up w' w'' → wpOrdS P ops C Lq r a' w'') a w ∧ mOp P ops C j (fun a' w' => ∀ w'', C w'' → Up w' w'' → wpOrdS P ops C Lq s a' w'') a w

theorem wpHeadS_ord {Lq : Act → World → Prop} (hsel : Region.noSelect ops = true) :
    ∀ (l : Ordr) (listed : Array Bool) (a : Act) (w : World), C w → ordBS md ops l listed = true → wpOrdS P ops C Lq l a w →
    wpHeadS P md ops C (fun listed' a' w' => Region.ready md ops listed' = [] ∧ Lq a' w') l.len listed a w
  | .nil, listed, a, w, _, hB, h => ⟨List.isEmpty_iff.1 hB, h⟩
  | .calm i r, listed, a, w, hC, hB, h => by
    obtain ⟨o, v, ho, hy, hK⟩ := h
    simp only [ordBS, Bool.and_eq_true] at hB
    obtain ⟨⟨hr, hf⟩, hB'⟩ := hB
    have hr' : i ∈ Region.ready md ops listed := by simpa using hr
    exact wpHeadS_first ho (Region.noSelect_spec hsel) (fun listed' a' w' hL => hL.1) r.len listed a w hC (Region.free_spec ho hf) hr' hy
      (fun w' hC' hu => wpHeadS_ord hsel r _ _ w' hC' hB' (hK w' hC' hu))
  | .sole i r, listed, a, w, hC, hB, h => by
    simp only [ordBS, Bool.and_eq_true, decide_eq_true_eq] at hB
    obtain ⟨hr, hB'⟩ := hB
    refine ⟨fun h0 => (by rw [h0] at hr; cases hr), fun j hj => ?_⟩
    rw [hr] at hj
    obtain rfl : j = i := by simpa using hj
    exact mOp_mono hC (fun a' w' hC' h' w'' hC'' hu => wpHeadS_ord hsel r _ a' w'' hC'' hB' (h' w'' hC'' hu)) h
  | .fork i j r s, listed, a, w, hC, hB, h => by
    simp only [ordBS, Bool.and_eq_true, decide_eq_true_eq] at hB
    obtain ⟨⟨⟨hr, hlen⟩, hB1⟩, hB2⟩ := hB
    obtain ⟨h1, h2⟩ := h
    refine ⟨fun h0 => (by rw [h0] at hr; cases hr), fun k hk => ?_⟩
    rw [hr] at hk
    rcases List.mem_cons.1 hk with rfl | hk
    · exact mOp_mono hC (fun a' w' hC' h' w'' hC'' hu => wpHeadS_ord hsel r _ a' w'' hC'' hB1 (h' w'' hC'' hu)) h1
    · obtain rfl : k = j := by simpa using hk
      show mOp P ops C k (fun a' w' => ∀ w'', C w'' → Up w' w'' → wpHeadS P md ops C _ r.len _ a' w'') a w
      rw [hlen]
      exact mOp_mono hC (fun a' w' hC' h' w'' hC'' hu => wpHeadS_ord hsel s _ a' w'' hC'' hB2 (h' w'' hC'' hu)) h2

def mixBS (md : Region.Mode) (ops : Array Oper) (ord : Ordr) : Bool :=
  Region.noSelect ops && decide (ord.len = ops.size) && ordBS md ops ord (Array.replicate ops.size false)
theorem wp_region_mixS (C : World → Prop) (ord : Ordr) {id : Nat} {Q : Exit → Act → World → Prop} {a : Act} {w : World} {l : List Oper} (hm : P.follows .mixedOrders = true) (hB : mixBS .any l.toArray ord = true) (hC : C w.drew)
    (h : wpOrdS P l.toArray C (fun a' w' => C w' → Q .normal a' w') ord a w.drew) : (Code.region id l.toArray true).wp P Q a w := by
  simp only [mixBS, Bool.and_eq_true, decide_eq_true_eq] at hB
  obtain ⟨⟨hsel, hol⟩, hlex⟩ := hB
  have H := wpHeadS_ord (md := .any) hsel ord _ a _ hC hlex h
  refine wp_region_any hm ?_
  have := wpAny_of_headS (Q' := Q) (g := 0) (fun listed a' w' hw' hL => ⟨hL.1, hL.2 hw'⟩) _ _ _ _ hC H
  rw [hol, Nat.add_zero] at this
  exact this

/-! ### The steps of the walk -/
theorem os_nil {Lq : Act → World → Prop} {a : Act} {w : World} (h : Lq a w) : wpOrdS P ops C Lq .nil a w := h
theorem os_still {Lq : Act → World → Prop} {i : Nat} {r : Ordr} {a : Act} {w : World} {o : Oper} (ho : ops[i]? = some o) (hw : Region.wanted o (yielded ops a.tmps) = true)
    (h : ∀ K : Act → Prop, (∀ a, (∀ w', C w' → Up w w' → wpOrdS P ops C Lq r a w') → K a) → ∃ v, (∀ w', C w' → stillUpon w' v ((execOp a.eval o).run P w')) ∧ K (a.put o.dst v)) : wpOrdS P ops C Lq (.calm i r) a w := by
  obtain ⟨v, hv, hk⟩ := h _ (fun _ h => h)
  exact ⟨o, v, ho, StillIn.calm (.inl ⟨hw, hv⟩), hk⟩
theorem os_calm {Lq : Act → World → Prop} {i : Nat} {r : Ordr} {a : Act} {w : World} {o : Oper} (ho : ops[i]? = some o) (hw : Region.wanted o (yielded ops a.tmps) = true)
    (h : ∀ K : Act → Prop, (∀ a, (∀ w', C w' → Up w w' → wpOrdS P ops C Lq r a w') → K a) → ∃ v, (∀ w', C w' → calmUpon P C w' v ((execOp a.eval o).run P w')) ∧ K (a.put o.dst v)) : wpOrdS P ops C Lq (.calm i r) a w := by
  obtain ⟨v, hv, hk⟩ := h _ (fun _ h => h)
  exact ⟨o, v, ho, .inl ⟨hw, hv⟩, hk⟩
theorem os_skip {Lq : Act → World → Prop} {i : Nat} {r : Ordr} {a : Act} {w : World} {o : Oper} (ho : ops[i]? = some o) (hw : Region.wanted o (yielded ops a.tmps) = false)
    (h : ∀ K : Act → Prop, (∀ a, (∀ w', C w' → Up w w' → wpOrdS P ops C Lq r a w') → K a) → K (a.put o.dst undef)) : wpOrdS P ops C Lq (.calm i r) a w := ⟨o, undef, ho, .inr ⟨hw, rfl⟩, h _ (fun _ h => h)⟩
theorem mOp_sole {i : Nat} {L : Act → World → Prop} {a : Act} {w : World} {o : Oper} (ho : ops[i]? = some o) (hw : Region.wanted o (yielded ops a.tmps) = true)
    (h : ∀ K : Act → World → Prop, (∀ a w', L a w' → K a w') → mixUpon P C (fun v w' => K (a.put o.dst v) w') ((execOp a.eval o).run P w)) : mOp P ops C i L a w := by
  have := h _ (fun _ _ h => h)
  unfold mOp
  simp only [ho, hw, if_true]
  exact this
theorem mOp_sole_skip {i : Nat} {L : Act → World → Prop} {a : Act} {w : World} {o : Oper} (ho : ops[i]? = some o) (hw : Region.wanted o (yielded ops a.tmps) = false)
    (h : ∀ K : Act → World → Prop, (∀ a w', L a w' → K a w') → K (a.put o.dst undef) w) : mOp P ops C i L a w := by
  unfold mOp
  simp only [ho, hw, Bool.false_eq_true, if_false]
  exact h _ (fun _ _ h => h)
theorem os_sole {Lq : Act → World → Prop} {i : Nat} {r : Ordr} {a : Act} {w : World} {o : Oper} (ho : ops[i]? = some o) (hw : Region.wanted o (yielded ops a.tmps) = true)
    (h : ∀ K : Act → World → Prop, (∀ a w', (∀ w'', C w'' → Up w' w'' → wpOrdS P ops C Lq r a w'') → K a w') → mixUpon P C (fun v w' => K (a.put o.dst v) w') ((execOp a.eval o).run P w)) : wpOrdS P ops C Lq (.sole i r) a w := mOp_sole ho hw h
theorem os_sole_skip {Lq : Act → World → Prop} {i : Nat} {r : Ordr} {a : Act} {w : World} {o : Oper} (ho : ops[i]? = some o) (hw : Region.wanted o (yielded ops a.tmps) = false)
    (h : ∀ K : Act → World → Prop, (∀ a w', (∀ w'', C w'' → Up w' w'' → wpOrdS P ops C Lq r a w'') → K a w') → K (a.put o.dst undef) w) : wpOrdS P ops C Lq (.sole i r) a w := mOp_sole_skip ho hw h
theorem os_fork {Lq : Act → World → Prop} {i j : Nat} {r s : Ordr} {a : Act} {w : World} {o o' : Oper} (ho : ops[i]? = some o) (hw : Region.wanted o (yielded ops a.tmps) = true) (ho' : ops[j]? = some o') (hw' : Region.wanted o' (yielded ops a.tmps) = true)
    (h : ∀ K : Act → World → Prop, (∀ a w', (∀ w'', C w'' → Up w' w'' → wpOrdS P ops C Lq r a w'') → K a w') → mixUpon P C (fun v w' => K (a.put o.dst v) w') ((execOp a.eval o).run P w))
    (h' : ∀ K : Act → World → Prop, (∀ a w', (∀ w'', C w'' → Up w' w'' → wpOrdS P ops C Lq s a w'') → K a w') → mixUpon P C (fun v w' => K (a.put o'.dst v) w') ((execOp a.eval o').run P w)) : wpOrdS P ops C Lq (.fork i j r s) a w := ⟨mOp_sole ho hw h, mOp_sole ho' hw' h'⟩
end
end Go.Proofs.Ythjefbfhpdbcjaa
