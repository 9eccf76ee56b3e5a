/- A map from uint64 to uint64 that reads as a list of pairs, no key twice: no program in sight. -/
import Derived.Maps.OwnSet
import Derived.Maps.Ext
namespace Go.Proofs.YtonfaojmphidpaaGreatDoor
open Go Go.Maps
set_option linter.unusedVariables false

def K64 (k : Int) : Lit := .int .u64 k
theorem K64_inj {a b : Int} (h : K64 a = K64 b) : a = b := by unfold K64 at h; injection h
theorem K64_key (k : Int) : WideAt.IsKeyLit (K64 k) := by simp [K64, WideAt.IsKeyLit]
def keysOf (L : List (Int × Int)) : List Int := L.map Prod.fst
def strike (L : List (Int × Int)) (k : Int) : List (Int × Int) := L.filter fun p => p.1 != k
structure Tab (D : DataW Unit) (L : List (Int × Int)) : Prop where
  tidy : Tidy D
  nodup : (keysOf L).Nodup
  has_ : ∀ k, Maps.has D (K64 k) = decide (k ∈ keysOf L)
  at_ : ∀ p ∈ L, ∀ z, D.atKey (K64 p.1) z = .lit (K64 p.2)
  size_ : Maps.size D = L.length
theorem Tab.empty : Tab (.map []) [] := ⟨tidy_empty, List.nodup_nil, fun k => rfl, (fun p hp => absurd hp List.not_mem_nil), rfl⟩
theorem Tab.perm {D : DataW Unit} {L L' : List (Int × Int)} (h : Tab D L) (hp : L.Perm L') : Tab D L' :=
  ⟨h.tidy, (hp.map _).nodup_iff.1 h.nodup, fun k => by rw [h.has_ k]; exact decide_eq_decide.2 (hp.map _).mem_iff, fun p hm => h.at_ p (hp.mem_iff.2 hm), by rw [h.size_, hp.length_eq]⟩
theorem mem_keysOf {L : List (Int × Int)} {k : Int} : k ∈ keysOf L ↔ ∃ v, (k, v) ∈ L := by simp [keysOf]
theorem mem_strike {L : List (Int × Int)} {k : Int} {p : Int × Int} : p ∈ strike L k ↔ p ∈ L ∧ p.1 ≠ k := by simp [strike]
theorem keysOf_strike (L : List (Int × Int)) (k : Int) : keysOf (strike L k) = (keysOf L).filter fun x => x != k := by
  unfold keysOf strike
  rw [List.filter_map]; rfl
theorem strike_of_not {L : List (Int × Int)} {k : Int} (h : k ∉ keysOf L) : strike L k = L := by
  unfold strike
  rw [List.filter_eq_self]
  intro p hp
  have : p.1 ≠ k := fun e => h (by rw [← e]; exact List.mem_map_of_mem hp)
  simpa using this
theorem length_strike {L : List (Int × Int)} (h : (keysOf L).Nodup) (k : Int) : (strike L k).length + (if k ∈ keysOf L then 1 else 0) = L.length := by
  induction L with
  | nil => simp [strike, keysOf]
  | cons p L ih =>
    have hn : p.1 ∉ keysOf L ∧ (keysOf L).Nodup := by simpa [keysOf] using h
    have := ih hn.2
    by_cases e : p.1 = k
    · have h1 : strike (p :: L) k = strike L k := by simp [strike, e]
      have h2 : k ∉ keysOf L := e ▸ hn.1
      rw [if_neg h2] at this
      rw [h1, if_pos (by simp [keysOf, e])]
      simp; omega
    · have h1 : strike (p :: L) k = p :: strike L k := by simp [strike, e]
      rw [h1]
      have h3 : (k ∈ keysOf (p :: L)) ↔ k ∈ keysOf L := by simp [keysOf, Ne.symm e]
      simp only [List.length_cons, h3]; omega
theorem Tab.del {D : DataW Unit} {L : List (Int × Int)} (h : Tab D L) (k : Int) : Tab (D.del (K64 k)) (strike L k) := by
  refine ⟨h.tidy.del _, ?_, fun k' => ?_, fun p hp z => ?_, ?_⟩
  · rw [keysOf_strike]; exact h.nodup.filter _
  · by_cases e : k' = k
    · subst e; rw [has_del_same]; simp [keysOf_strike]
    · rw [has_del_other (fun e' => e (K64_inj e')), h.has_]; simp [keysOf_strike, e]
  · obtain ⟨h1, h2⟩ := mem_strike.1 hp
    rw [atKey_del_other (fun e' => h2 (K64_inj e')), h.at_ p h1]
  · have a := size_del (k := K64 k) h.tidy
    have b := length_strike h.nodup k
    rw [h.has_, h.size_] at a
    by_cases e : k ∈ keysOf L
    · simp [e] at a b; omega
    · simp [e] at a b; omega
theorem Tab.put {D : DataW Unit} {L : List (Int × Int)} (h : Tab D L) (k v : Int) : Tab (D.put (K64 k) (.lit (K64 v))) ((k, v) :: strike L k) := by
  refine ⟨h.tidy.put (K64_key k) _, ?_, fun k' => ?_, fun p hp z => ?_, ?_⟩
  · show (k :: keysOf (strike L k)).Nodup
    rw [keysOf_strike, List.nodup_cons]; exact ⟨by simp, h.nodup.filter _⟩
  · by_cases e : k' = k
    · subst e; rw [has_put_same h.tidy.isMap (K64_key _)]; simp [keysOf]
    · rw [has_put_other (fun e' => e (K64_inj e')), h.has_]
      show decide _ = decide (k' ∈ k :: keysOf (strike L k))
      simp [keysOf_strike, e]
  · rcases List.mem_cons.1 hp with rfl | hp
    · exact atKey_put_same h.tidy.isMap (K64_key _) _ _
    · obtain ⟨h1, h2⟩ := mem_strike.1 hp
      rw [atKey_put_other (fun e' => h2 (K64_inj e')), h.at_ p h1]
  · have a := size_put (k := K64 k) h.tidy (.lit (K64 v))
    have b := length_strike h.nodup k
    rw [h.has_, h.size_] at a
    rw [a, List.length_cons]
    by_cases e : k ∈ keysOf L
    · simp [e] at b ⊢; omega
    · simp [e] at b ⊢; omega
theorem Tab.miss {D : DataW Unit} {L : List (Int × Int)} (h : Tab D L) {k : Int} (hk : k ∉ keysOf L) (z : DataW Unit) : D.atKey (K64 k) z = z := atKey_of_not_has (by rw [h.has_]; simp [hk]) z
end Go.Proofs.YtonfaojmphidpaaGreatDoor
