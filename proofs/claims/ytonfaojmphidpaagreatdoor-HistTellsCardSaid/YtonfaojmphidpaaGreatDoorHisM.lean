/- A map of the call's own from int to int: a count for each key. -/
import Derived.Test.YtonfaojmphidpaaGreatDoorHistT
namespace Go.Proofs.YtonfaojmphidpaaGreatDoor
open Go.RowKit Go.Maps
set_option linter.unusedVariables false
set_option linter.unusedSimpArgs false

def KI (k : Int) : Lit := .int .i64 k
theorem KI_inj {a b : Int} (h : KI a = KI b) : a = b := by unfold KI at h; injection h
theorem KI_key (k : Int) : WideAt.IsKeyLit (KI k) := by simp [KI, WideAt.IsKeyLit]
def In63 (k : Int) : Prop := -9223372036854775808 ≤ k ∧ k ≤ 9223372036854775807
theorem In63.wf {k : Int} (h : In63 k) : (Lit.int .i64 k).wf = true := by
  unfold In63 at h
  simp [Lit.wf, IntKind.min, IntKind.max, IntKind.signed, IntKind.bits]; omega
theorem wf_In63 {x : Int} (h : (Lit.int .i64 x).wf = true) : In63 x := by
  simp [Lit.wf, IntKind.min, IntKind.max, IntKind.signed, IntKind.bits] at h
  unfold In63; omega
def addKey (S : List Int) (k : Int) : List Int := if k ∈ S then S else S ++ [k]
def updC (c : Int → Int) (k v : Int) : Int → Int := fun x => if x = k then v else c x
theorem mem_addKey {S : List Int} {k x : Int} : x ∈ addKey S k ↔ x ∈ S ∨ x = k := by
  unfold addKey
  split
  · rename_i h; constructor
    · exact .inl
    · rintro (h' | rfl)
      · exact h'
      · exact h
  · simp
theorem addKey_nodup {S : List Int} (h : S.Nodup) (k : Int) : (addKey S k).Nodup := by
  unfold addKey
  split
  · exact h
  · rename_i hk
    rw [List.nodup_append]; exact ⟨h, by simp, fun a ha b hb => by simp at hb; subst hb; exact fun e => hk (e ▸ ha)⟩
theorem addKey_len (S : List Int) (k : Int) : (addKey S k).length ≤ S.length + 1 := by
  unfold addKey; split <;> simp
structure TabI (D : DataW Unit) (S : List Int) (c : Int → Int) : Prop where
  tidy : Tidy D
  nodup : S.Nodup
  has_ : ∀ k, Maps.has D (KI k) = decide (k ∈ S)
  at_ : ∀ k ∈ S, ∀ z, D.atKey (KI k) z = .lit (KI (c k))
  zero_ : ∀ k, k ∉ S → c k = 0
  size_ : Maps.size D = S.length
theorem TabI.empty : TabI (.map []) [] (fun _ => 0) := ⟨tidy_empty, List.nodup_nil, fun k => rfl, (fun p hp => absurd hp List.not_mem_nil), fun _ _ => rfl, rfl⟩
theorem TabI.put {D : DataW Unit} {S : List Int} {c : Int → Int} (h : TabI D S c) (k v : Int) : TabI (D.put (KI k) (.lit (KI v))) (addKey S k) (updC c k v) := by
  refine ⟨h.tidy.put (KI_key k) _, addKey_nodup h.nodup k, fun k' => ?_, fun k' hp z => ?_, fun k' hp => ?_, ?_⟩
  · by_cases e : k' = k
    · subst e; rw [has_put_same h.tidy.isMap (KI_key _)]; simp [mem_addKey]
    · rw [has_put_other (fun e' => e (KI_inj e')), h.has_]; simp [mem_addKey, e]
  · unfold updC
    by_cases e : k' = k
    · subst e; rw [if_pos rfl]; exact atKey_put_same h.tidy.isMap (KI_key _) _ _
    · rw [if_neg e, atKey_put_other (fun e' => e (KI_inj e')), h.at_ k' ((mem_addKey.1 hp).resolve_right e)]
  · unfold updC
    rw [if_neg (fun e => hp (mem_addKey.2 (.inr e)))]
    exact h.zero_ k' (fun hm => hp (mem_addKey.2 (.inl hm)))
  · have a := size_put (k := KI k) h.tidy (.lit (KI v))
    rw [h.has_, h.size_] at a
    rw [a]; unfold addKey
    by_cases e : k ∈ S <;> simp [e]
/-- The map in block b has just the keys S, and reads c. -/
def MI (w : World) (b : Nat) (S : List Int) (c : Int → Int) : Prop := ∃ D : DataW Unit, w.ownsMap Tryz.prog 3 (plainElem Tryz.prog 3) b S.length D ∧ TabI D S c
theorem zeroInt (w : World) : (zeroValue 3).run Tryz.prog w = .ok (.int .i64 0) w := by kernel_rfl
theorem lawI : Keyed Tryz.prog 3 := int_keyed Tryz.underlying3
theorem TabI.val {D : DataW Unit} {S : List Int} {c : Int → Int} (h : TabI D S c) {k x : Int} (hat : D.atKey (KI k) (.lit (KI 0)) = .lit (KI x)) : x = c k := by
  by_cases hk : k ∈ S
  · rw [h.at_ k hk] at hat
    injection hat with hat
    exact (KI_inj hat).symm
  · rw [atKey_of_not_has (by rw [h.has_]; simp [hk])] at hat
    injection hat with hat
    rw [h.zero_ k hk]; exact (KI_inj hat).symm
theorem MI.look {w : World} {b : Nat} {S : List Int} {c : Int → Int} (h : MI w b S c) {k : Int} (hk : In63 k) : (Instr.lookup 153 (.map (some b)) (.int .i64 k) false).run Tryz.prog w = .ok (.int .i64 (c k)) w := by
  obtain ⟨D, hown, hT⟩ := h
  obtain ⟨x, hrun, hat, -⟩ := hown.lookup_int lawI Tryz.underlying153 Tryz.underlying3 (zeroInt _) (keyOf_int_mk Tryz.underlying3 hk.wf)
  rw [hrun, hT.val hat]
theorem MI.lt {w : World} {b : Nat} {S : List Int} {c : Int → Int} (h : MI w b S c) : b < w.heap.size := by obtain ⟨D, h1, -⟩ := h; exact h1.lt
theorem MI.kept {w w' : World} {b : Nat} {S : List Int} {c : Int → Int} {r : Option Nat} (h : MI w b S c) (hg : w.grownBy w' r) (h2 : some b ≠ r) : MI w' b S c := by
  obtain ⟨D, hown, hT⟩ := h
  exact ⟨D, hown.kept hg h2, hT⟩
theorem MI.of_below {w w' : World} {b : Nat} {S : List Int} {c : Int → Int} (h : MI w b S c) (hb : RowKit.Below w.heap.size w w') : MI w' b S c :=
  h.kept (r := none) ⟨hb.os, hb.tape, hb.output, hb.size, fun i hi _ => hb.block i hi⟩ (by simp)
theorem MI.made (w : World) : MI (w.alloc (.map #[] 0)) w.heap.size [] (fun _ => 0) := ⟨.map [], World.ownsMap_made w Tryz.prog _ _, TabI.empty⟩
theorem MI.put {w' : World} {b : Nat} {S : List Int} {c : Int → Int} {D : DataW Unit} (hT : TabI D S c) {k v : Int} (h : w'.ownsMap Tryz.prog 3 (plainElem Tryz.prog 3) b (S.length + 1) (D.put (KI k) (.lit (.int .i64 v)))) : MI w' b (addKey S k) (updC c k v) := by
  have hp := hT.put k v
  exact ⟨_, hp.size_ ▸ own_tight h, hp⟩
theorem MI.no_cell {w : World} {b : Nat} {S : List Int} {c : Int → Int} (h : MI w b S c) (off : Nat) : w.cell? ⟨b, off, none⟩ = none := by obtain ⟨D, h1, -⟩ := h; exact own_no_cell h1 off
theorem TabI.perm {D : DataW Unit} {S : List Int} {c : Int → Int} (h : TabI D S c) {w : World} {b n : Nat} {R : Value → Option (DataW Unit × List MemPlace)} (hown : w.ownsMap Tryz.prog 3 R b n D) {ss : List Int} (hs : ss.Perm (intKeys D)) : ss.Perm S := by
  have hc : CollectedI D (fun _ => false) S := ⟨h.nodup, fun x => by
    have := h.has_ x
    unfold KI at this
    rw [this]; simp⟩
  exact hs.trans (hc.perm hown lawI Tryz.underlying3 (fun _ => rfl)).symm
end Go.Proofs.YtonfaojmphidpaaGreatDoor
