/- Tables in order: by value, then by key. No program in sight. -/
import Derived.Test.YtonfaojmphidpaaGreatDoorWheel
namespace Go.Proofs.YtonfaojmphidpaaGreatDoor
open Go Go.Maps
set_option linter.unusedVariables false

def ltT (p q : Int × Int) : Prop := p.2 < q.2 ∨ (p.2 = q.2 ∧ p.1 < q.1)
instance (p q : Int × Int) : Decidable (ltT p q) := by unfold ltT; infer_instance
theorem ltT_irr (p : Int × Int) : ¬ ltT p p := by unfold ltT; omega
theorem ltT_trans {p q r : Int × Int} (h1 : ltT p q) (h2 : ltT q r) : ltT p r := by unfold ltT at *; omega
theorem ltT_tot {p q : Int × Int} (h : p.1 ≠ q.1) : ltT p q ∨ ltT q p := by unfold ltT; omega
theorem ltT_asym {p q : Int × Int} (h1 : ltT p q) : ¬ ltT q p := by unfold ltT at *; omega
def Srt (L : List (Int × Int)) : Prop := L.Pairwise ltT
theorem Srt.cons {p : Int × Int} {L : List (Int × Int)} (h : Srt (p :: L)) : (∀ q ∈ L, ltT p q) ∧ Srt L := List.pairwise_cons.1 h
theorem Srt.uniq : ∀ {A B : List (Int × Int)}, A.Perm B → Srt A → Srt B → A = B
  | [], B, hp, _, _ => by simpa using hp.symm.eq_nil.symm
  | a :: A, [], hp, _, _ => by simpa using hp.eq_nil
  | a :: A, b :: B, hp, hA, hB => by
    have ha := hA.cons; have hb := hB.cons
    have e : a = b := by
      rcases List.mem_cons.1 (hp.mem_iff.1 (List.mem_cons_self (a := a) (l := A))) with h | h
      · exact h
      · rcases List.mem_cons.1 (hp.mem_iff.2 (List.mem_cons_self (a := b) (l := B))) with h' | h'
        · exact h'.symm
        · exact absurd (hb.1 _ h) (ltT_asym (ha.1 _ h'))
    subst e
    rw [Srt.uniq ((List.perm_cons a).1 hp) ha.2 hb.2]
theorem Srt.sub {A B : List (Int × Int)} (hs : A.Sublist B) (h : Srt B) : Srt A := List.Pairwise.sublist hs h
theorem Srt.strike {L : List (Int × Int)} (h : Srt L) (k : Int) : Srt (strike L k) := h.sub List.filter_sublist
/-- t goes in where it belongs. -/
def insT (L : List (Int × Int)) (t : Int × Int) : List (Int × Int) := L.takeWhile (fun p => decide (ltT p t)) ++ t :: L.dropWhile (fun p => decide (ltT p t))
theorem insT_perm (L : List (Int × Int)) (t : Int × Int) : (t :: L).Perm (insT L t) := by
  unfold insT
  refine .trans ?_ List.perm_middle.symm
  rw [List.takeWhile_append_dropWhile]
theorem insT_srt {L : List (Int × Int)} {t : Int × Int} (h : Srt L) (hk : t.1 ∉ keysOf L) : Srt (insT L t) := by
  induction L with
  | nil => simp [insT, Srt]
  | cons p L ih =>
    have hp := h.cons
    have hk' : t.1 ≠ p.1 ∧ t.1 ∉ keysOf L := by simpa [keysOf] using hk
    by_cases e : ltT p t
    · have : insT (p :: L) t = p :: insT L t := by simp [insT, e]
      rw [this]
      refine List.pairwise_cons.2 ⟨fun q hq => ?_, ih hp.2 hk'.2⟩
      rcases List.mem_cons.1 ((insT_perm L t).mem_iff.2 hq) with rfl | hq
      · exact e
      · exact hp.1 q hq
    · have : insT (p :: L) t = t :: p :: L := by simp [insT, e]
      rw [this]
      have h1 : ltT t p := (ltT_tot hk'.1).resolve_right e
      refine List.pairwise_cons.2 ⟨fun q hq => ?_, h⟩
      rcases List.mem_cons.1 hq with rfl | hq
      · exact h1
      · exact ltT_trans h1 (hp.1 q hq)
def dueT (L : List (Int × Int)) (now : Int) : List (Int × Int) := L.takeWhile fun p => decide (p.2 ≤ now)
def restT (L : List (Int × Int)) (now : Int) : List (Int × Int) := L.dropWhile fun p => decide (p.2 ≤ now)
theorem due_rest (L : List (Int × Int)) (now : Int) : dueT L now ++ restT L now = L := List.takeWhile_append_dropWhile
theorem strike_head {p : Int × Int} {L : List (Int × Int)} (h : (keysOf (p :: L)).Nodup) : strike (p :: L) p.1 = L := by
  have hn : p.1 ∉ keysOf L ∧ (keysOf L).Nodup := by simpa [keysOf] using h
  have : strike (p :: L) p.1 = strike L p.1 := by simp [strike]
  rw [this, strike_of_not hn.1]
theorem restT_srt {L : List (Int × Int)} (h : Srt L) (now : Int) : Srt (restT L now) := h.sub (List.dropWhile_sublist _)
/-- In order: what is due is just what has come. -/
theorem dueT_mem {L : List (Int × Int)} (h : Srt L) (now : Int) (p : Int × Int) : p ∈ dueT L now ↔ p ∈ L ∧ p.2 ≤ now := by
  induction L with
  | nil => simp [dueT]
  | cons q L ih =>
    have hq := h.cons
    by_cases e : q.2 ≤ now
    · have : dueT (q :: L) now = q :: dueT L now := by simp [dueT, e]
      rw [this, List.mem_cons, List.mem_cons, ih hq.2]
      constructor
      · rintro (rfl | ⟨h1, h2⟩)
        · exact ⟨.inl rfl, e⟩
        · exact ⟨.inr h1, h2⟩
      · rintro ⟨rfl | h1, h2⟩
        · exact .inl rfl
        · exact .inr ⟨h1, h2⟩
    · have : dueT (q :: L) now = [] := by simp [dueT, e]
      rw [this]
      constructor
      · intro h; cases h
      · rintro ⟨h1, h2⟩
        rcases List.mem_cons.1 h1 with rfl | h1
        · exact absurd h2 e
        · have := hq.1 p h1; unfold ltT at this; omega
theorem restT_mem {L : List (Int × Int)} (h : Srt L) (now : Int) (p : Int × Int) : p ∈ restT L now ↔ p ∈ L ∧ now < p.2 := by
  induction L with
  | nil => simp [restT]
  | cons q L ih =>
    have hq := h.cons
    by_cases e : q.2 ≤ now
    · have : restT (q :: L) now = restT L now := by simp [restT, e]
      rw [this, List.mem_cons, ih hq.2]
      constructor
      · rintro ⟨h1, h2⟩; exact ⟨.inr h1, h2⟩
      · rintro ⟨rfl | h1, h2⟩
        · omega
        · exact ⟨h1, h2⟩
    · have : restT (q :: L) now = q :: L := by simp [restT, e]
      rw [this]
      refine ⟨fun h1 => ⟨h1, ?_⟩, fun h => h.1⟩
      rcases List.mem_cons.1 h1 with rfl | h1
      · omega
      · have := hq.1 p h1; unfold ltT at this; omega
/-- Every table can be put in order. -/
def sortT (L : List (Int × Int)) : List (Int × Int) := L.foldr (fun t A => insT A t) []
theorem sortT_perm : ∀ L : List (Int × Int), L.Perm (sortT L)
  | [] => .refl _
  | p :: L => ((sortT_perm L).cons p).trans (insT_perm (sortT L) p)
theorem sortT_srt {L : List (Int × Int)} (h : (keysOf L).Nodup) : Srt (sortT L) := by
  induction L with
  | nil => simp [sortT, Srt]
  | cons p L ih =>
    have hn : p.1 ∉ keysOf L ∧ (keysOf L).Nodup := by simpa [keysOf] using h
    refine insT_srt (ih hn.2) fun hm => hn.1 ?_
    unfold keysOf at hm ⊢
    exact (((sortT_perm L).map Prod.fst).mem_iff).2 hm
theorem take_snoc' {α : Type} (xs : List α) (d : α) (k : Nat) (h : k < xs.length) : xs.take (k + 1) = xs.take k ++ [xs.getD k d] := by
  rw [List.take_succ_eq_append_getElem h]; simp [List.getD_eq_getElem?_getD, h]
theorem keysOf_getD {T : List (Int × Int)} {i : Nat} (h : i < T.length) : (keysOf T).getD i 0 = (T.getD i (0, 0)).1 := by
  simp [keysOf, List.getD_eq_getElem?_getD, h]
theorem keysOf_length (T : List (Int × Int)) : (keysOf T).length = T.length := by simp [keysOf]
theorem dueT_of {T : List (Int × Int)} {now : Int} {k : Nat} (h1 : ∀ p ∈ T.take k, p.2 ≤ now) (h2 : T.length ≤ k ∨ ∃ p, T[k]? = some p ∧ now < p.2) : dueT T now = T.take k ∧ restT T now = T.drop k := by
  have e1 : (T.take k).takeWhile (fun p => decide (p.2 ≤ now)) = T.take k := by
    generalize T.take k = A at h1
    induction A with
    | nil => rfl
    | cons q A ih => rw [List.takeWhile_cons_of_pos (by simpa using h1 q List.mem_cons_self), ih fun p hp => h1 p (List.mem_cons_of_mem _ hp)]
  have hd : (T.drop k).takeWhile (fun p => decide (p.2 ≤ now)) = [] ∧ (T.drop k).dropWhile (fun p => decide (p.2 ≤ now)) = T.drop k := by
    rcases h2 with h2 | ⟨p, hp, hlt⟩
    · rw [List.drop_of_length_le h2]; exact ⟨rfl, rfl⟩
    · obtain ⟨hk, rfl⟩ := List.getElem?_eq_some_iff.1 hp
      have : ¬ (T[k].2 ≤ now) := by omega
      rw [List.drop_eq_getElem_cons hk, List.takeWhile_cons_of_neg (by simpa using this), List.dropWhile_cons_of_neg (by simpa using this)]
      exact ⟨rfl, rfl⟩
  have hT : T = T.take k ++ T.drop k := (List.take_append_drop k T).symm
  have hp : ∀ p ∈ T.take k, (fun p : Int × Int => decide (p.2 ≤ now)) p = true := fun p hm => by simpa using h1 p hm
  constructor
  · unfold dueT
    conv => lhs; rw [hT]
    rw [List.takeWhile_append_of_pos hp, hd.1, List.append_nil]
  · unfold restT
    conv => lhs; rw [hT]
    rw [List.dropWhile_append_of_pos hp, hd.2]
theorem keysOf_snoc (T : List (Int × Int)) (k : Nat) (h : k < T.length) : keysOf (T.take (k + 1)) = keysOf (T.take k) ++ [(T.getD k (0, 0)).1] := by
  rw [take_snoc' T (0, 0) k h]; simp [keysOf]
theorem tw_of {α : Type} {f : α → Bool} {T : List α} {k : Nat} (h1 : ∀ p ∈ T.take k, f p = true) (h2 : T.length ≤ k ∨ ∃ p, T[k]? = some p ∧ f p = false) : T.takeWhile f = T.take k ∧ T.dropWhile f = T.drop k := by
  have e1 : (T.take k).takeWhile f = T.take k := by
    generalize T.take k = A at h1
    induction A with
    | nil => rfl
    | cons q A ih => rw [List.takeWhile_cons_of_pos (h1 q List.mem_cons_self), ih fun p hp => h1 p (List.mem_cons_of_mem _ hp)]
  have hd : (T.drop k).takeWhile f = [] ∧ (T.drop k).dropWhile f = T.drop k := by
    rcases h2 with h2 | ⟨p, hp, hlt⟩
    · rw [List.drop_of_length_le h2]; exact ⟨rfl, rfl⟩
    · obtain ⟨hk, rfl⟩ := List.getElem?_eq_some_iff.1 hp
      rw [List.drop_eq_getElem_cons hk, List.takeWhile_cons_of_neg (by simpa using hlt), List.dropWhile_cons_of_neg (by simpa using hlt)]
      exact ⟨rfl, rfl⟩
  have hT : T = T.take k ++ T.drop k := (List.take_append_drop k T).symm
  constructor
  · conv => lhs; rw [hT]
    rw [List.takeWhile_append_of_pos h1, hd.1, List.append_nil]
  · conv => lhs; rw [hT]
    rw [List.dropWhile_append_of_pos h1, hd.2]
theorem insT_of {T : List (Int × Int)} {t : Int × Int} {k : Nat} (h1 : ∀ p ∈ T.take k, ltT p t) (h2 : T.length ≤ k ∨ ∃ p, T[k]? = some p ∧ ¬ ltT p t) : insT T t = T.take k ++ t :: T.drop k := by
  have := tw_of (f := fun p => decide (ltT p t)) (T := T) (k := k) (fun p hp => by simpa using h1 p hp) (h2.imp id fun ⟨p, hp, hn⟩ => ⟨p, hp, by simpa using hn⟩)
  unfold insT; rw [this.1, this.2]
theorem insT_length (T : List (Int × Int)) (t : Int × Int) : (insT T t).length = T.length + 1 := by rw [← (insT_perm T t).length_eq]; rfl
end Go.Proofs.YtonfaojmphidpaaGreatDoor
