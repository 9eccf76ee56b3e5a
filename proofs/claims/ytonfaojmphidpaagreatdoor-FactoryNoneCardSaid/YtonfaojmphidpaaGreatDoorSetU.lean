/- A set of keys in a map of the call's own. -/
import Derived.Test.YtonfaojmphidpaaGreatDoorApp
import Derived.Test.YtonfaojmphidpaaGreatDoorWheel
namespace Go.Proofs.YtonfaojmphidpaaGreatDoor
open Go.RowKit Go.Maps
set_option linter.unusedVariables false
set_option linter.unusedSimpArgs false

structure TabS (D : DataW Unit) (S : List Int) : Prop where
  tidy : Tidy D
  nodup : S.Nodup
  has_ : ∀ k, Maps.has D (K64 k) = decide (k ∈ S)
  at_ : ∀ k ∈ S, ∀ z, D.atKey (K64 k) z = .lit (.bool true)
  size_ : Maps.size D = S.length
theorem TabS.empty : TabS (.map []) [] := ⟨tidy_empty, List.nodup_nil, fun k => rfl, (fun p hp => absurd hp List.not_mem_nil), rfl⟩
theorem TabS.put {D : DataW Unit} {S : List Int} (h : TabS D S) {k : Int} (hk : k ∉ S) : TabS (D.put (K64 k) (.lit (.bool true))) (S ++ [k]) := by
  refine ⟨h.tidy.put (K64_key k) _, ?_, fun k' => ?_, fun k' hp z => ?_, ?_⟩
  · rw [List.nodup_append]; exact ⟨h.nodup, by simp, fun a ha b hb => by simp at hb; subst hb; exact fun e => hk (e ▸ ha)⟩
  · by_cases e : k' = k
    · subst e; rw [has_put_same h.tidy.isMap (K64_key _)]; simp
    · rw [has_put_other (fun e' => e (K64_inj e')), h.has_]; simp [e]
  · by_cases e : k' = k
    · subst e; exact atKey_put_same h.tidy.isMap (K64_key _) _ _
    · rw [atKey_put_other (fun e' => e (K64_inj e')), h.at_ k' (by simpa [e] using hp)]
  · have a := size_put (k := K64 k) h.tidy (.lit (.bool true))
    rw [h.has_, h.size_] at a
    rw [a]; simp [hk]
/-- The set in block b holds just S. -/
def St (w : World) (b : Nat) (S : List Int) : Prop := ∃ D : DataW Unit, w.ownsMap Tryz.prog 28 (plainElem Tryz.prog 4) b S.length D ∧ TabS D S
theorem zeroBool (w : World) : (zeroValue 4).run Tryz.prog w = .ok (.bool false) w := by kernel_rfl
theorem St.look {w : World} {b : Nat} {S : List Int} (h : St w b S) {k : Int} (hk : In64 k) : (Instr.lookup 27 (.map (some b)) (.int .u64 k) false).run Tryz.prog w = .ok (.bool (decide (k ∈ S))) w := by
  obtain ⟨D, hown, hT⟩ := h
  obtain ⟨v, ps, hrun, hv⟩ := hown.lookup lawU Tryz.underlying27 (zeroBool _) (plainElem_bool Tryz.underlying4 false) (keyOf_int_mk Tryz.underlying28 hk.wf)
  rw [hrun]
  have hd : D.atKey (K64 k) (.lit (.bool false)) = .lit (.bool (decide (k ∈ S))) := by
    by_cases hm : k ∈ S
    · rw [hT.at_ k hm, decide_eq_true hm]
    · rw [Maps.atKey_of_not_has (by rw [hT.has_]; simp [hm]), decide_eq_false hm]
  have hv' : plainElem (H := Unit) Tryz.prog 4 v = some (.lit (.bool (decide (k ∈ S))), ps) := by rw [← hd]; exact hv
  cases v <;> simp [plainElem, Tryz.underlying4] at hv'
  rw [hv'.1]
theorem St.lt {w : World} {b : Nat} {S : List Int} (h : St w b S) : b < w.heap.size := by obtain ⟨D, h1, -⟩ := h; exact h1.lt
theorem St.kept {w w' : World} {b : Nat} {S : List Int} {r : Option Nat} (h : St w b S) (hg : w.grownBy w' r) (h2 : some b ≠ r) : St w' b S := by
  obtain ⟨D, hown, hT⟩ := h
  exact ⟨D, hown.kept hg h2, hT⟩
theorem St.of_below {w w' : World} {b : Nat} {S : List Int} (h : St w b S) (hb : RowKit.Below w.heap.size w w') : St w' b S :=
  h.kept (r := none) ⟨hb.os, hb.tape, hb.output, hb.size, fun i hi _ => hb.block i hi⟩ (by simp)
theorem St.made (w : World) : St (w.alloc (.map #[] 0)) w.heap.size [] := ⟨.map [], World.ownsMap_made w Tryz.prog _ _, TabS.empty⟩
theorem own_tightS {k : TypeId} {R : Value → Option (DataW Unit × List MemPlace)} {w : World} {b n : Nat} {D : DataW Unit} (h : w.ownsMap Tryz.prog k R b n D) : w.ownsMap Tryz.prog k R b (Maps.size D) D := own_tight h
theorem St.put {w' : World} {b : Nat} {S : List Int} {D : DataW Unit} (hT : TabS D S) {k : Int} (hk : k ∉ S) (h : w'.ownsMap Tryz.prog 28 (plainElem Tryz.prog 4) b (S.length + 1) (D.put (K64 k) (.lit (.bool true)))) : St w' b (S ++ [k]) := by
  have hp := hT.put hk
  exact ⟨_, hp.size_ ▸ own_tight h, hp⟩
theorem own_no_cell {P : Program} {k : TypeId} {R : Value → Option (DataW Unit × List MemPlace)} {w : World} {b n : Nat} {D : DataW Unit} (h : w.ownsMap P k R b n D) (off : Nat) : w.cell? ⟨b, off, none⟩ = none := by
  obtain ⟨es, clock, h1, -⟩ := h
  simp [World.cell?, h1]
theorem St.no_cell {w : World} {b : Nat} {S : List Int} (h : St w b S) (off : Nat) : w.cell? ⟨b, off, none⟩ = none := by obtain ⟨D, h1, -⟩ := h; exact own_no_cell h1 off
theorem Rd.keptM {w w' : World} {size : Nat} {a : Option Addr} {n cap : Nat} {cs : List Value} (hs0 : 0 < size) (h : Rd size w a n cap cs) {b : Nat} (hno : ∀ off, w.cell? ⟨b, off, none⟩ = none) (hg : w.grownBy w' (some b)) : Rd size w' a n cap cs := by
  refine ⟨h.1, h.2.1, h.2.2.1, fun h0 => ?_⟩
  obtain ⟨x, off, ha, hx, hc⟩ := h.2.2.2 h0
  have hne : x ≠ b := fun e => by
    subst e
    have hl : 0 < cs.length := by rw [h.1]; exact Nat.mul_pos h0 hs0
    have := hc 0 cs[0] (List.getElem?_eq_getElem hl)
    rw [hno] at this; cases this
  exact ⟨x, off, ha, Nat.lt_of_lt_of_le hx hg.size, fun i v hi => (World.cell?_of_block (w := w) (a := ⟨x, off + i, none⟩) (hg.block x hx (fun e => hne (Option.some.inj e)))).trans (hc i v hi)⟩
end Go.Proofs.YtonfaojmphidpaaGreatDoor
