/- Keys of a table, come one by one in whatever order. -/
import Derived.Test.YtonfaojmphidpaaGreatDoorWheel
namespace Go.Proofs.YtonfaojmphidpaaGreatDoor
open Go Go.Maps
set_option linter.unusedVariables false

/-- What has come: no key twice; just those that are no longer to come. -/
def Coll (L : List (Int × Int)) (left : Lit → Bool) (ss : List Int) : Prop := ss.Nodup ∧ ∀ x, x ∈ ss ↔ (x ∈ keysOf L ∧ left (K64 x) = false)
theorem Coll.start {D : DataW Unit} {L : List (Int × Int)} (h : Tab D L) : Coll L (Maps.has D) [] := by
  refine ⟨List.nodup_nil, fun x => ?_⟩
  rw [h.has_ x]; by_cases hx : x ∈ keysOf L <;> simp [hx]
theorem Coll.step {D : DataW Unit} {L : List (Int × Int)} (hT : Tab D L) {left : Lit → Bool} {ss : List Int} (h : Coll L left ss) {x : Int} {y : DataW Unit} (hlk : left (K64 x) = true) (hat : ∀ zd, D.atKey (K64 x) zd = y) :
    Coll L (fun z => left z && !z.sameKey (K64 x)) (ss ++ [x]) := by
  have hhas : x ∈ keysOf L := by have := has_true_of_atKey hat; rw [hT.has_] at this; simpa using this
  have hnew : x ∉ ss := fun hx => by have := ((h.2 x).1 hx).2; rw [hlk] at this; cases this
  refine ⟨List.nodup_append.2 ⟨h.1, by simp, fun a ha b hb => by simp at hb; subst hb; exact fun e => hnew (e ▸ ha)⟩, fun y => ?_⟩
  by_cases hy : y = x
  · subst hy; simp [hhas, Lit.sameKey, K64]
  · have : (K64 y).sameKey (K64 x) = false := sameKey_ne fun e => hy (K64_inj e)
    simp [h.2 y, hy, this]
theorem Coll.perm {D : DataW Unit} {L : List (Int × Int)} (hT : Tab D L) {left : Lit → Bool} {ss : List Int} (h : Coll L left ss) (hl : ∀ kl, left kl = false) : ss.Perm (keysOf L) :=
  (List.perm_ext_iff_of_nodup h.1 hT.nodup).2 fun x => by rw [h.2 x, hl]; simp
theorem key_u64 {P : Program} {k : TypeId} (hk : P.underlying k = some (.int .u64)) {key : Value} {kl : Lit} (h : keyOf P k key = some kl) : ∃ x : Int, key = .int .u64 x ∧ kl = K64 x ∧ (Lit.int .u64 x).wf = true := by
  cases key <;> simp [keyOf, hk, mapKey] at h
  rename_i q a
  obtain ⟨⟨rfl, hw⟩, rfl⟩ := h
  exact ⟨a, rfl, rfl, hw⟩
theorem wf_In64 {x : Int} (h : (Lit.int .u64 x).wf = true) : In64 x := by
  simp [Lit.wf, IntKind.min, IntKind.max, IntKind.signed, IntKind.bits] at h
  unfold In64; omega
end Go.Proofs.YtonfaojmphidpaaGreatDoor
