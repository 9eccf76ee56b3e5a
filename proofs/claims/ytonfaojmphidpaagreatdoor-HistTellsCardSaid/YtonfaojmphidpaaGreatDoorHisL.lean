/- Chapter 9: who waits for an answer: no program in sight. -/
import Derived.Test.YtonfaojmphidpaaGreatDoorHisM
namespace Go.Proofs.YtonfaojmphidpaaGreatDoor
open Go.RowKit Go.Maps
set_option linter.unusedVariables false

/-- What an event adds to the count of a thread. -/
def evD (e : Ev) (t : Int) : Int := if e.thread = t then (if e.kind = 0 then 1 else if e.kind = 2 then -1 else 0) else 0
def cntL (L : List Ev) (t : Int) : Int := (L.map fun e => evD e t).sum
/-- The keys of the table of counts. -/
def keyL : List Ev → List Int → List Int
  | [], S => S
  | e :: L, S => keyL L (if e.kind = 0 ∨ e.kind = 2 then addKey S e.thread else S)
theorem cntL_snoc (L : List Ev) (e : Ev) (t : Int) : cntL (L ++ [e]) t = cntL L t + evD e t := by unfold cntL; rw [List.map_append, List.sum_append]; simp
theorem keyL_snoc (L : List Ev) (e : Ev) : ∀ S, keyL (L ++ [e]) S = (if e.kind = 0 ∨ e.kind = 2 then addKey (keyL L S) e.thread else keyL L S) := by
  induction L with
  | nil => intro S; rfl
  | cons x L ih => intro S; exact ih _
theorem evD_bound (e : Ev) (t : Int) : -1 ≤ evD e t ∧ evD e t ≤ 1 := by unfold evD; split <;> (try split) <;> (try split) <;> omega
theorem cntL_bound (L : List Ev) (t : Int) : -(L.length : Int) ≤ cntL L t ∧ cntL L t ≤ L.length := by
  induction L with
  | nil => simp [cntL]
  | cons e L ih =>
    have h := evD_bound e t
    have : cntL (e :: L) t = evD e t + cntL L t := by simp [cntL]
    rw [this, List.length_cons]; omega
theorem mem_keyL (L : List Ev) : ∀ S t, t ∈ keyL L S ↔ t ∈ S ∨ ∃ e ∈ L, (e.kind = 0 ∨ e.kind = 2) ∧ e.thread = t := by
  induction L with
  | nil => intro S t; simp [keyL]
  | cons x L ih =>
    intro S t
    show t ∈ keyL L _ ↔ _
    rw [ih]
    by_cases h : x.kind = 0 ∨ x.kind = 2
    · rw [if_pos h, mem_addKey]
      constructor
      · rintro ((h1 | h1) | ⟨e, he, h2⟩)
        · exact .inl h1
        · exact .inr ⟨x, List.mem_cons_self, h, h1.symm⟩
        · exact .inr ⟨e, List.mem_cons_of_mem _ he, h2⟩
      · rintro (h1 | ⟨e, he, h2, h3⟩)
        · exact .inl (.inl h1)
        · rcases List.mem_cons.1 he with rfl | he
          · exact .inl (.inr h3.symm)
          · exact .inr ⟨e, he, h2, h3⟩
    · rw [if_neg h]
      constructor
      · rintro (h1 | ⟨e, he, h2⟩)
        · exact .inl h1
        · exact .inr ⟨e, List.mem_cons_of_mem _ he, h2⟩
      · rintro (h1 | ⟨e, he, h2, h3⟩)
        · exact .inl h1
        · rcases List.mem_cons.1 he with rfl | he
          · exact absurd h2 h
          · exact .inr ⟨e, he, h2, h3⟩
/-- A thread with a count has an event that counts. -/
theorem cntL_pos {L : List Ev} {t : Int} (h : 0 < cntL L t) : ∃ e ∈ L, (e.kind = 0 ∨ e.kind = 2) ∧ e.thread = t := by
  apply Classical.byContradiction
  intro hn
  have : cntL L t = 0 := by
    unfold cntL
    have : ∀ e ∈ L, evD e t = 0 := fun e he => by
      unfold evD
      by_cases h1 : e.thread = t
      · by_cases h2 : e.kind = 0
        · exact absurd ⟨e, he, .inl h2, h1⟩ hn
        · by_cases h3 : e.kind = 2
          · exact absurd ⟨e, he, .inr h3, h1⟩ hn
          · rw [if_pos h1, if_neg h2, if_neg h3]
      · rw [if_neg h1]
    clear h hn
    induction L with
    | nil => rfl
    | cons e L ih =>
      rw [List.map_cons, List.sum_cons, this e List.mem_cons_self, ih fun x hx => this x (List.mem_cons_of_mem _ hx)]; rfl
  omega
/-- Put into a rising list, once. -/
def insU : List Int → Int → List Int
  | [], t => [t]
  | x :: l, t => if x < t then x :: insU l t else if x = t then x :: l else t :: x :: l
theorem mem_insU (l : List Int) (t x : Int) : x ∈ insU l t ↔ x ∈ l ∨ x = t := by
  induction l with
  | nil => simp [insU]
  | cons y l ih =>
    unfold insU
    split
    · rw [List.mem_cons, ih, List.mem_cons, or_assoc]
    · split
      · rename_i h; subst h
        constructor
        · exact .inl
        · rintro (h | rfl)
          · exact h
          · exact List.mem_cons_self
      · rw [List.mem_cons, or_comm]
def Rise (l : List Int) : Prop := l.Pairwise (· < ·)
theorem insU_rise {l : List Int} (h : Rise l) (t : Int) : Rise (insU l t) := by
  induction l with
  | nil => exact List.pairwise_singleton _ _
  | cons y l ih =>
    have h1 := List.pairwise_cons.1 h
    unfold insU
    split
    · rename_i hy
      refine List.pairwise_cons.2 ⟨fun x hx => ?_, ih h1.2⟩
      rcases (mem_insU l t x).1 hx with hx | rfl
      · exact h1.1 x hx
      · exact hy
    · split
      · exact h
      · rename_i h2 h3
        refine List.pairwise_cons.2 ⟨fun x hx => ?_, h⟩
        rcases List.mem_cons.1 hx with rfl | hx
        · omega
        · have := h1.1 x hx; omega
theorem Rise.uniq {l l' : List Int} (h : Rise l) (h' : Rise l') (hm : ∀ x, x ∈ l ↔ x ∈ l') : l = l' := by
  have hp : l.Perm l' := (List.perm_ext_iff_of_nodup (h.imp fun h => Int.ne_of_lt h) (h'.imp fun h => Int.ne_of_lt h)).2 hm
  exact hp.eq_of_pairwise (le := fun a b => a < b) (fun a b _ _ h1 h2 => by omega) h h'
/-- The document's loop. -/
def pendF (L : List Ev) : List Ev → List Int → List Int
  | [], out => out
  | e :: M, out => pendF L M (if cntL L e.thread ≤ 0 then out else insU out e.thread)
theorem pendF_snoc (L M : List Ev) (e : Ev) : ∀ out, pendF L (M ++ [e]) out = (if cntL L e.thread ≤ 0 then pendF L M out else insU (pendF L M out) e.thread) := by
  induction M with
  | nil => intro out; rfl
  | cons x M ih => intro out; exact ih _
theorem pendF_rise (L M : List Ev) : ∀ {out}, Rise out → Rise (pendF L M out) := by
  induction M with
  | nil => intro out h; exact h
  | cons e M ih =>
    intro out h
    apply ih
    split
    · exact h
    · exact insU_rise h _
theorem mem_pendF (L M : List Ev) : ∀ out x, x ∈ pendF L M out ↔ x ∈ out ∨ ∃ e ∈ M, 0 < cntL L e.thread ∧ e.thread = x := by
  induction M with
  | nil => intro out x; simp [pendF]
  | cons y M ih =>
    intro out x
    show x ∈ pendF L M _ ↔ _
    rw [ih]
    by_cases h : cntL L y.thread ≤ 0
    · rw [if_pos h]
      constructor
      · rintro (h1 | ⟨e, he, h2⟩)
        · exact .inl h1
        · exact .inr ⟨e, List.mem_cons_of_mem _ he, h2⟩
      · rintro (h1 | ⟨e, he, h2, h3⟩)
        · exact .inl h1
        · rcases List.mem_cons.1 he with rfl | he
          · omega
          · exact .inr ⟨e, he, h2, h3⟩
    · rw [if_neg h, mem_insU]
      constructor
      · rintro ((h1 | h1) | ⟨e, he, h2⟩)
        · exact .inl h1
        · exact .inr ⟨y, List.mem_cons_self, by omega, h1.symm⟩
        · exact .inr ⟨e, List.mem_cons_of_mem _ he, h2⟩
      · rintro (h1 | ⟨e, he, h2, h3⟩)
        · exact .inl (.inl h1)
        · rcases List.mem_cons.1 he with rfl | he
          · exact .inl (.inr h3.symm)
          · exact .inr ⟨e, he, h2, h3⟩
/-- The program's answer. -/
def pendP (L : List Ev) (ss : List Int) : List Int := (ss.mergeSort (fun x y => decide (x ≤ y))).filter fun t => decide (0 < cntL L t)
theorem sort_rise {S ss : List Int} (hn : S.Nodup) (hp : ss.Perm S) : Rise (ss.mergeSort (fun x y => decide (x ≤ y))) := by
  have h1 : (ss.mergeSort (fun x y => decide (x ≤ y))).Pairwise (fun a b => decide (a ≤ b) = true) := List.pairwise_mergeSort (fun a b c h1 h2 => by simp only [decide_eq_true_eq] at *; omega) (fun a b => by simp only [Bool.or_eq_true, decide_eq_true_eq]; omega) ss
  have h2 : (ss.mergeSort (fun x y => decide (x ≤ y))).Nodup := ((List.mergeSort_perm ss _).trans hp).nodup_iff.2 hn
  exact (h1.and h2).imp fun h => by have := h.1; have := h.2; simp only [decide_eq_true_eq] at *; omega
theorem keyL_nodup (L : List Ev) : ∀ {S : List Int}, S.Nodup → (keyL L S).Nodup := by
  induction L with
  | nil => intro S h; exact h
  | cons e L ih =>
    intro S h
    apply ih
    split
    · exact addKey_nodup h _
    · exact h
theorem keyL_len (L : List Ev) : ∀ S : List Int, (keyL L S).length ≤ S.length + L.length := by
  induction L with
  | nil => intro S; exact Nat.le_refl _
  | cons e L ih =>
    intro S
    refine Nat.le_trans (ih _) ?_
    have := addKey_len S e.thread
    rw [List.length_cons]
    split <;> omega
theorem pend_eq (L : List Ev) {ss : List Int} (hp : ss.Perm (keyL L [])) : pendP L ss = pendF L L [] := by
  have hn : (keyL L []).Nodup := keyL_nodup L List.nodup_nil
  refine Rise.uniq (List.Pairwise.sublist List.filter_sublist (sort_rise hn hp)) (pendF_rise L L List.Pairwise.nil) fun x => ?_
  unfold pendP
  rw [List.mem_filter, (List.mergeSort_perm ss _).mem_iff, hp.mem_iff, mem_keyL, mem_pendF]
  simp only [List.not_mem_nil, false_or, decide_eq_true_eq]
  constructor
  · rintro ⟨⟨e, he, _, rfl⟩, h2⟩
    exact ⟨e, he, h2, rfl⟩
  · rintro ⟨e, he, h2, rfl⟩
    exact ⟨cntL_pos h2, h2⟩
/-- Where it goes. -/
def posU : List Int → Int → Nat
  | [], _ => 0
  | x :: l, t => if x < t then posU l t + 1 else 0
theorem posU_le (l : List Int) (t : Int) : posU l t ≤ l.length := by
  induction l with
  | nil => exact Nat.le_refl _
  | cons x l ih => unfold posU; split <;> simp <;> omega
theorem posU_lt (l : List Int) (t : Int) : ∀ j, j < posU l t → l.getD j 0 < t := by
  induction l with
  | nil => intro j hj; cases hj
  | cons x l ih =>
    intro j hj
    unfold posU at hj
    split at hj
    · rename_i h
      cases j with
      | zero => simpa using h
      | succ j => simpa using ih j (by omega)
    · cases hj
theorem posU_ge (l : List Int) (t : Int) (h : posU l t < l.length) : ¬ l.getD (posU l t) 0 < t := by
  induction l with
  | nil => cases h
  | cons x l ih =>
    unfold posU at h ⊢
    split
    · rename_i hx
      rw [if_pos hx, List.length_cons] at h
      simpa using ih (by omega)
    · rename_i hx
      simpa using hx
theorem insU_same (l : List Int) (t : Int) (h : posU l t < l.length) (he : l.getD (posU l t) 0 = t) : insU l t = l := by
  induction l with
  | nil => cases h
  | cons x l ih =>
    unfold posU at h he
    unfold insU
    split
    · rename_i hx
      rw [if_pos hx] at h he
      rw [ih (by simpa using h) (by simpa using he)]
    · rename_i hx
      rw [if_neg hx] at he
      rw [if_pos (by simpa using he)]
theorem insU_new (l : List Int) (t : Int) (h : posU l t < l.length → l.getD (posU l t) 0 ≠ t) : insU l t = l.take (posU l t) ++ [t] ++ l.drop (posU l t) := by
  induction l with
  | nil => rfl
  | cons x l ih =>
    unfold posU at h ⊢
    unfold insU
    split
    · rename_i hx
      rw [if_pos hx] at h
      rw [ih (fun h1 => by simpa using h (by simpa using h1))]
      simp
    · rename_i hx
      rw [if_neg hx] at h
      rw [if_neg (by simpa using h (by simp))]
      simp
theorem insU_len (l : List Int) (t : Int) : (insU l t).length ≤ l.length + 1 := by
  induction l with
  | nil => simp [insU]
  | cons x l ih => unfold insU; split <;> (try split) <;> simp <;> omega
theorem pendF_len (L M : List Ev) : ∀ out, (pendF L M out).length ≤ out.length + M.length := by
  induction M with
  | nil => intro out; exact Nat.le_refl _
  | cons e M ih =>
    intro out
    refine Nat.le_trans (ih _) ?_
    have := insU_len out e.thread
    rw [List.length_cons]
    split <;> omega
end Go.Proofs.YtonfaojmphidpaaGreatDoor
