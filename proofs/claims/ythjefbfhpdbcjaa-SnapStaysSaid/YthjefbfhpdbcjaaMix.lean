/- A region that draws its order and holds calls (or appends) whose value hangs on the world: what is still is taken as soon as it may come up; the others come up one at a time. One walk, in an order that is given, serves every order. -/
import Derived.Test.YthjefbfhpdbcjaaTail
namespace Go.Proofs.Ythjefbfhpdbcjaa
set_option linter.unusedVariables false
section
variable {P : Program} {ops : Array Oper} {md : Region.Mode} {C : World → Prop}

/-- What an operation that may touch the world comes to: a value, in a world of the class. -/
def mixUpon (P : Program) (C : World → Prop) (K : Value → World → Prop) : Result Next → Prop
  | .ok (.value u) w' => C w' ∧ K u w'
  | .ok .skip w' => C w' ∧ K undef w'
  | .ok (.enter f args) w' => Calls P f args w' (fun e w'' => ∃ v, e = .returned v ∧ C w'' ∧ K v w'')
  | _ => False
def mOp (P : Program) (ops : Array Oper) (C : World → Prop) (i : Nat) (K : Act → World → Prop) (a : Act) (w : World) : Prop :=
  match ops[i]? with
  | none => K a w
  | some o => if Region.wanted o (yielded ops a.tmps) then mixUpon P C (fun v w' => K (a.put o.dst v) w') ((execOp a.eval o).run P w) else K (a.put o.dst undef) w

attribute [go_sem] mixUpon
theorem mixUpon_mono {K K' : Value → World → Prop} (h : ∀ v w', C w' → K v w' → K' v w') : ∀ {r : Result Next}, mixUpon P C K r → mixUpon P C K' r
  | .ok (.value u) w', hh => ⟨hh.1, h _ _ hh.1 hh.2⟩
  | .ok .skip w', hh => ⟨hh.1, h _ _ hh.1 hh.2⟩
  | .ok (.enter f args) w', hh => Calls.mono hh fun e w'' ⟨v, he, hc, hk⟩ => ⟨v, he, hc, h _ _ hc hk⟩
theorem mOp_mono {i : Nat} {a : Act} {w : World} {K K' : Act → World → Prop} (hw : C w) (h : ∀ a w', C w' → K a w' → K' a w') (hh : mOp P ops C i K a w) : mOp P ops C i K' a w := by
  unfold mOp at *
  split
  · exact h _ _ hw (by simpa [*] using hh)
  · rename_i o ho
    simp only [ho] at hh
    split
    · rename_i hwant; simp only [hwant, if_true] at hh; exact mixUpon_mono (C := C) (K := fun v w' => K (a.put o.dst v) w') (fun v w' hc hk => h (a.put o.dst v) w' hc hk) hh
    · rename_i hwant; simp only [hwant] at hh; exact h _ _ hw hh
theorem wp_of_mix {o : Oper} {a : Act} {K' : Act → World → Prop} {Q' : Exit → Act → World → Prop} {w : World} (hh : mixUpon P C (fun v w' => K' (a.put o.dst v) w') ((execOp a.eval o).run P w)) : o.wp P a w K' Q' := by
  unfold Oper.wp
  generalize (execOp a.eval o).run P w = r at *
  cases r with
  | ok n w' =>
    cases n <;> simp only [mixUpon] at hh <;> simp only [Oper.upon]
    case value u => exact hh.2
    case skip => exact hh.2
    case enter f args => exact hh.mono fun e w'' ⟨v, he, _, hk⟩ => by subst he; exact hk
  | halt x w' => simp only [mixUpon] at hh
theorem wpOp_of_mOp {i : Nat} {a : Act} {K : Act → World → Prop} {K' : Act → World → Prop} {Q' : Exit → Act → World → Prop} {w : World} (hC : C w) (h : ∀ a w', C w' → K a w' → K' a w') (hh : mOp P ops C i K a w) : wpOp P ops Q' i K' a w := by
  have hh := mOp_mono hC h hh
  unfold mOp at hh
  unfold wpOp
  split
  · rename_i ho; simp only [ho] at hh; exact hh
  · rename_i o ho
    simp only [ho] at hh
    split
    · rename_i hw; simp only [hw, if_true] at hh; exact .inl (wp_of_mix hh)
    · rename_i hw; simp only [hw] at hh; exact hh

/-- One value, in the very world that it got. -/
def stillUpon (w : World) (v : Value) : Result Next → Prop
  | .ok (.value u) w' => w' = w ∧ u = v
  | .ok .skip w' => w' = w ∧ v = undef
  | _ => False
attribute [go_sem] stillUpon
def StillIn (P : Program) (ops : Array Oper) (C : World → Prop) (o : Oper) (v : Value) (a : Act) : Prop :=
  (Region.wanted o (yielded ops a.tmps) = true ∧ ∀ w, C w → stillUpon w v ((execOp a.eval o).run P w)) ∨ (Region.wanted o (yielded ops a.tmps) = false ∧ v = undef)
theorem StillIn.mOp {i : Nat} {o : Oper} {v : Value} {a : Act} {w : World} (hi : ops[i]? = some o) (hy : StillIn P ops C o v a) (hC : C w) {K : Act → World → Prop} (h : K (a.put o.dst v) w) : mOp P ops C i K a w := by
  unfold Go.Proofs.Ythjefbfhpdbcjaa.mOp
  simp only [hi]
  rcases hy with ⟨hw, hv⟩ | ⟨hw, rfl⟩
  · simp only [hw, if_true]
    have := hv w hC
    generalize (execOp a.eval o).run P w = r at *
    cases r with
    | ok n w' =>
      cases n <;> simp only [stillUpon] at this <;> simp only [mixUpon]
      case value u => obtain ⟨rfl, rfl⟩ := this; exact ⟨hC, h⟩
      case skip => obtain ⟨rfl, rfl⟩ := this; exact ⟨hC, h⟩
    | halt x w' => simp only [stillUpon] at this
  · simp only [hw, Bool.false_eq_true, if_false]; exact h
theorem StillIn.of_same {o : Oper} {v : Value} {a a' : Act} (hy : StillIn P ops C o v a) (he : execOp a'.eval o = execOp a.eval o)
    (hw : Region.wanted o (yielded ops a'.tmps) = Region.wanted o (yielded ops a.tmps)) : StillIn P ops C o v a' := by
  unfold StillIn at *
  rw [he, hw]
  exact hy
theorem mOp_put {j : Nat} {oi oj : Oper} {v : Value} (hj : ops[j]? = some oj) (hap : oi.apart ops oj = true)
    (hsi : ∀ cs b, oi.op ≠ .select cs b) (hsj : ∀ cs b, oj.op ≠ .select cs b) {K : Act → World → Prop} {a : Act} {w : World}
    (hy : StillIn P ops C oi v a) (h : mOp P ops C j K (a.put oi.dst v) w) :
    mOp P ops C j (fun a' w' => StillIn P ops C oi v a' ∧ K (a'.put oi.dst v) w') a w := by
  obtain ⟨h1, h2, h3⟩ := Oper.apart_spec hap
  have keep : ∀ u, StillIn P ops C oi v (a.put oj.dst u) := fun u => hy.of_same (execOp_put oi hsi a oj.dst u h3) (wanted_put oi a oj.dst u h3)
  unfold mOp at *
  simp only [hj] at *
  rw [wanted_put oj a oi.dst v h1] at h
  split
  · rename_i hw
    simp only [hw, if_true] at h
    rw [execOp_put oj hsj a oi.dst v h1] at h
    refine mixUpon_mono (C := C) (K := fun u w' => K ((a.put oi.dst v).put oj.dst u) w') (fun u w' _ hk => ⟨keep u, ?_⟩) h
    rw [← Act.put_comm a v u h2]; exact hk
  · rename_i hw
    simp only [hw] at h
    exact ⟨keep _, by rw [← Act.put_comm a v undef h2]; exact h⟩

def wpHeadM (P : Program) (md : Region.Mode) (ops : Array Oper) (C : World → Prop) (n : Nat) (L : Array Bool → Act → World → Prop) : Nat → Array Bool → Act → World → Prop
  | 0, listed, a, w => L listed a w
  | f + 1, listed, a, w => Region.ready md ops listed ≠ [] ∧ ∀ i ∈ Region.ready md ops listed, i < n ∧ mOp P ops C i (wpHeadM P md ops C n L f (listed.setIfInBounds i true)) a w
theorem wpAny_of_headM {n g : Nat} {L : Array Bool → Act → World → Prop} {Q' : Exit → Act → World → Prop} (hL : ∀ listed a w, C w → L listed a w → wpAny P md ops Q' g listed a w) :
    ∀ (f : Nat) (listed : Array Bool) (a : Act) (w : World), C w → wpHeadM P md ops C n L f listed a w → wpAny P md ops Q' (f + g) listed a w
  | 0, listed, a, w, hw, h => by rw [Nat.zero_add]; exact hL _ _ _ hw h
  | f + 1, listed, a, w, hw, h => by
    rw [show f + 1 + g = (f + g) + 1 by omega]
    exact ⟨fun h0 => absurd h0 h.1, fun i hi => wpOp_of_mOp hw (fun a' w' hw' h' => wpAny_of_headM hL f _ a' w' hw' h') (h.2 i hi).2⟩

/-- What the head must leave: the operations from n on alone may come up. -/
def Heads (md : Region.Mode) (ops : Array Oper) (n : Nat) : Prop :=
  ∀ (listed : Array Bool), HeadInv md ops n listed → ∀ i, i < n → listed.getD i true = false → ∀ t, n ≤ t → t ∉ Region.ready md ops listed

theorem wpHeadM_first {n i : Nat} {oi : Oper} {v : Value} {L : Array Bool → Act → World → Prop} (hi : ops[i]? = some oi) (hsel : ∀ (j : Nat) (o : Oper) cs b, ops[j]? = some o → o.op ≠ .select cs b)
    (hH : Heads md ops n) (hin : i < n) (hdone : ∀ listed a w, L listed a w → ∀ j ∈ Region.ready md ops listed, n ≤ j) :
    ∀ (f : Nat) (listed : Array Bool) (a : Act) (w : World), C w → HeadInv md ops n listed →
      (∀ j oj, ops[j]? = some oj → j ≠ i → listed.getD j true = false → (∀ e ∈ oj.after, Region.binds md e = true → e.on ≠ i) → oi.apart ops oj = true) →
      i ∈ Region.ready md ops listed → StillIn P ops C oi v a →
      wpHeadM P md ops C n L f (listed.setIfInBounds i true) (a.put oi.dst v) w → wpHeadM P md ops C n L (f + 1) listed a w := by
  intro f
  induction f with
  | zero =>
    intro listed a w hC inv _ hr hy H
    have hun := (mem_ready.1 hr).1
    refine ⟨fun h => (by rw [h] at hr; cases hr), fun j hj => ?_⟩
    have hjn : j < n := by
      rcases Nat.lt_or_ge j n with h | h
      · exact h
      · exact absurd hj (hH listed inv i hin hun j h)
    refine ⟨hjn, ?_⟩
    by_cases hji : j = i
    · subst hji; exact hy.mOp hi hC H
    · have := hdone _ _ _ H j (ready_mono hj hji)
      omega
  | succ f ih =>
    intro listed a w hC inv hfree hr hy H
    have hun := (mem_ready.1 hr).1
    refine ⟨fun h => (by rw [h] at hr; cases hr), fun j hj => ?_⟩
    have hjn : j < n := by
      rcases Nat.lt_or_ge j n with h | h
      · exact h
      · exact absurd hj (hH listed inv i hin hun j h)
    refine ⟨hjn, ?_⟩
    by_cases hji : j = i
    · subst hji; exact hy.mOp hi hC H
    · have h1 := (H.2 j (ready_mono hj hji)).2
      obtain ⟨hjun, oj, hoj, hall⟩ := mem_ready.1 hj
      have hnot : ∀ e ∈ oj.after, Region.binds md e = true → e.on ≠ i := fun e he hb heq => by
        have h1 := hall e he hb
        rw [heq, getD_both hun] at h1
        cases h1
      have h2 := mOp_put hoj (hfree j oj hoj hji hjun hnot) (fun cs b => hsel i oi cs b hi) (fun cs b => hsel j oj cs b hoj) hy h1
      have hfree' : ∀ k ok, ops[k]? = some ok → k ≠ i → (listed.setIfInBounds j true).getD k true = false →
          (∀ e ∈ ok.after, Region.binds md e = true → e.on ≠ i) → oi.apart ops ok = true := fun k ok hk hki hunk hno => by
        refine hfree k ok hk hki ?_ hno
        by_cases hjk : j = k
        · subst hjk; exact hjun
        · rw [getD_set_ne true hjk] at hunk; exact hunk
      refine mOp_mono hC (fun a' w' hC' h3 => ih (listed.setIfInBounds j true) a' w' hC' (inv.set hj hjn) hfree' (ready_mono hr (Ne.symm hji)) h3.1 ?_) h2
      rw [Array.setIfInBounds_comm _ _ hji]
      exact h3.2

/-! ### An order that is given: (i, true): operation i, which is still; (i, false): operation i, the only one that may come up. -/
def ordB (md : Region.Mode) (ops : Array Oper) (n : Nat) (fin : Array Bool → Bool) : List (Nat × Bool) → Array Bool → Bool
  | [], listed => fin listed
  | (i, true) :: r, listed => (Region.ready md ops listed).contains i && Region.free md ops listed i && decide (i < n) && ordB md ops n fin r (listed.setIfInBounds i true)
  | (i, false) :: r, listed => decide (Region.ready md ops listed = [i]) && decide (i < n) && ordB md ops n fin r (listed.setIfInBounds i true)
def wpOrd (P : Program) (ops : Array Oper) (C : World → Prop) (Lq : Act → World → Prop) : List (Nat × Bool) → Act → World → Prop
  | [], a, w => Lq a w
  | (i, true) :: r, a, w => ∃ o v, ops[i]? = some o ∧ StillIn P ops C o v a ∧ wpOrd P ops C Lq r (a.put o.dst v) w
  | (i, false) :: r, a, w => mOp P ops C i (wpOrd P ops C Lq r) a w

theorem wpHeadM_ord {n : Nat} {fin : Array Bool → Bool} {Lq : Act → World → Prop} (hsel : Region.noSelect ops = true) (hH : Heads md ops n) (hfin : ∀ listed, fin listed = true → ∀ j ∈ Region.ready md ops listed, n ≤ j) :
    ∀ (l : List (Nat × Bool)) (listed : Array Bool) (a : Act) (w : World), C w → HeadInv md ops n listed → ordB md ops n fin l listed = true → wpOrd P ops C Lq l a w →
    wpHeadM P md ops C n (fun listed' a' w' => fin listed' = true ∧ Lq a' w') l.length listed a w
  | [], listed, a, w, _, _, hB, h => ⟨hB, h⟩
  | (i, true) :: r, listed, a, w, hC, inv, hB, h => by
    obtain ⟨o, v, ho, hy, hK⟩ := h
    simp only [ordB, Bool.and_eq_true, decide_eq_true_eq] at hB
    obtain ⟨⟨⟨hr, hf⟩, hin⟩, hB'⟩ := hB
    have hr' : i ∈ Region.ready md ops listed := by simpa using hr
    exact wpHeadM_first ho (Region.noSelect_spec hsel) hH hin (fun listed' a' w' hL => hfin listed' hL.1) r.length listed a w hC inv (Region.free_spec ho hf) hr' hy
      (wpHeadM_ord hsel hH hfin r _ _ w hC (inv.set hr' hin) hB' hK)
  | (i, false) :: r, listed, a, w, hC, inv, hB, h => by
    simp only [ordB, Bool.and_eq_true, decide_eq_true_eq] at hB
    obtain ⟨⟨hr, hin⟩, hB'⟩ := hB
    have hr' : i ∈ Region.ready md ops listed := by rw [hr]; simp
    refine ⟨fun h0 => (by rw [h0] at hr'; cases hr'), fun j hj => ?_⟩
    rw [hr] at hj
    obtain rfl : j = i := by simpa using hj
    exact ⟨hin, mOp_mono hC (fun a' w' hC' h' => wpHeadM_ord hsel hH hfin r _ a' w' hC' (inv.set hr' hin) hB' h') h⟩

def mixTailB (md : Region.Mode) (ops : Array Oper) (n : Nat) (ord : List (Nat × Bool)) : Bool :=
  Region.noSelect ops && decide (n < ops.size) && decide (ord.length = n) && Region.sinkB md ops n && Region.chainB md ops n && ordB md ops n (fun listed => Region.seqB md ops (ops.size - n) n listed) ord (Array.replicate ops.size false)
def mixB (md : Region.Mode) (ops : Array Oper) (ord : List (Nat × Bool)) : Bool :=
  Region.noSelect ops && decide (ord.length = ops.size) && ordB md ops ops.size (fun listed => (Region.ready md ops listed).isEmpty) ord (Array.replicate ops.size false)

theorem head0 {l : List Oper} {n : Nat} : HeadInv .any l.toArray n (Array.replicate l.toArray.size false) :=
  ⟨by simp, fun j oj _ hl => (by rw [getD_replicate_false] at hl; cases hl), fun t _ ht => getD_in (by simpa using ht) (getD_replicate_false _ _)⟩

/-- The head in the order 'ord', then the tail from n on. -/
theorem wp_region_mix_tail (C : World → Prop) (n : Nat) (ord : List (Nat × Bool)) {id : Nat} {Q : Exit → Act → World → Prop} {a : Act} {w : World} {l : List Oper} (hm : P.follows .mixedOrders = true) (hB : mixTailB .any l.toArray n ord = true) (hC : C w.drew)
    (h : wpOrd P l.toArray C (fun a' w' => C w' → wpList P l.toArray Q (l.drop n) a' w') ord a w.drew) : (Code.region id l.toArray true).wp P Q a w := by
  simp only [mixTailB, Bool.and_eq_true, decide_eq_true_eq] at hB
  obtain ⟨⟨⟨⟨⟨hsel, hn⟩, hol⟩, hs⟩, hc⟩, hlex⟩ := hB
  have hn' : n < l.length := by simpa using hn
  have hdl : (l.drop n).length = l.toArray.size - n := by simp
  have H := wpHeadM_ord (md := .any) hsel (n := n) (fun listed inv i hi hun t ht => tail_waits hs hc hn inv _ i rfl hi hun t ht) (fun listed hf => seqB_ready hf) ord _ a _ hC head0 hlex h
  refine wp_region_any hm ?_
  have := wpAny_of_headM (Q' := Q) (g := l.toArray.size - n) (fun listed a' w' hw' hL => by
    have := wpAny_of_seq (md := .any) (Q' := Q) (l.drop n) n listed a' w' (fun j => by simp [List.getElem?_drop]) (by rw [hdl]; exact hL.1) (hL.2 hw')
    rwa [hdl] at this) _ _ _ _ hC H
  rw [hol, show n + (l.toArray.size - n) = l.toArray.size by omega] at this
  exact this
theorem wp_region_mix (C : World → Prop) (ord : List (Nat × Bool)) {id : Nat} {Q : Exit → Act → World → Prop} {a : Act} {w : World} {l : List Oper} (hm : P.follows .mixedOrders = true) (hB : mixB .any l.toArray ord = true) (hC : C w.drew)
    (h : wpOrd P l.toArray C (fun a' w' => C w' → Q .normal a' w') ord a w.drew) : (Code.region id l.toArray true).wp P Q a w := by
  simp only [mixB, Bool.and_eq_true, decide_eq_true_eq] at hB
  obtain ⟨⟨hsel, hol⟩, hlex⟩ := hB
  have H := wpHeadM_ord (md := .any) hsel (n := l.toArray.size) (fun listed inv i hi hun t ht hr => by
    obtain ⟨_, o, ho, _⟩ := mem_ready.1 hr
    have := (Array.getElem?_eq_some_iff.1 ho).1
    omega) (fun listed hf j hj => by rw [List.isEmpty_iff.1 hf] at hj; cases hj) ord _ a _ hC head0 hlex h
  refine wp_region_any hm ?_
  have := wpAny_of_headM (Q' := Q) (g := 0) (fun listed a' w' hw' hL => ⟨List.isEmpty_iff.1 hL.1, hL.2 hw'⟩) _ _ _ _ hC H
  rw [hol, Nat.add_zero] at this
  exact this

/-! ### The steps of the walk -/
theorem ord_nil {Lq : Act → World → Prop} {a : Act} {w : World} (h : Lq a w) : wpOrd P ops C Lq [] a w := h
theorem ord_still {Lq : Act → World → Prop} {i : Nat} {r : List (Nat × Bool)} {a : Act} {w : World} {o : Oper} (ho : ops[i]? = some o) (hw : Region.wanted o (yielded ops a.tmps) = true)
    (h : ∀ K : Act → Prop, (∀ a, wpOrd P ops C Lq r a w → K a) → ∃ v, (∀ w', C w' → stillUpon w' v ((execOp a.eval o).run P w')) ∧ K (a.put o.dst v)) : wpOrd P ops C Lq ((i, true) :: r) a w := by
  obtain ⟨v, hv, hk⟩ := h _ (fun _ h => h)
  exact ⟨o, v, ho, .inl ⟨hw, hv⟩, hk⟩
theorem ord_skip {Lq : Act → World → Prop} {i : Nat} {r : List (Nat × Bool)} {a : Act} {w : World} {o : Oper} (ho : ops[i]? = some o) (hw : Region.wanted o (yielded ops a.tmps) = false)
    (h : ∀ K : Act → Prop, (∀ a, wpOrd P ops C Lq r a w → K a) → K (a.put o.dst undef)) : wpOrd P ops C Lq ((i, true) :: r) a w := ⟨o, undef, ho, .inr ⟨hw, rfl⟩, h _ (fun _ h => h)⟩
theorem ord_sole {Lq : Act → World → Prop} {i : Nat} {r : List (Nat × Bool)} {a : Act} {w : World} {o : Oper} (ho : ops[i]? = some o) (hw : Region.wanted o (yielded ops a.tmps) = true)
    (h : ∀ K : Act → World → Prop, (∀ a w', wpOrd P ops C Lq r a w' → K a w') → mixUpon P C (fun v w' => K (a.put o.dst v) w') ((execOp a.eval o).run P w)) : wpOrd P ops C Lq ((i, false) :: r) a w := by
  have := h _ (fun _ _ h => h)
  show mOp P ops C i _ a w
  unfold mOp
  simp only [ho, hw, if_true]
  exact this
theorem ord_sole_skip {Lq : Act → World → Prop} {i : Nat} {r : List (Nat × Bool)} {a : Act} {w : World} {o : Oper} (ho : ops[i]? = some o) (hw : Region.wanted o (yielded ops a.tmps) = false)
    (h : ∀ K : Act → World → Prop, (∀ a w', wpOrd P ops C Lq r a w' → K a w') → K (a.put o.dst undef) w) : wpOrd P ops C Lq ((i, false) :: r) a w := by
  show mOp P ops C i _ a w
  unfold mOp
  simp only [ho, hw, Bool.false_eq_true, if_false]
  exact h _ (fun _ _ h => h)
end
end Go.Proofs.Ythjefbfhpdbcjaa
