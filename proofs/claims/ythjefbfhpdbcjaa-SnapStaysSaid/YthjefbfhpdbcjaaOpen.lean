/- How the arguments of the laws read: slices of whole numbers, slices of structs of one-cell fields. -/
import Derived.Test.YthjefbfhpdbcjaaProg
import Derived.Test.YthjefbfhpdbcjaaSl
import Derived.WalkKit
import Derived.ProofKit
import Derived.OpenShut
import Derived.Deep.Slices
import Derived.Deep.Fields
namespace Go.Proofs.Ythjefbfhpdbcjaa
open Go.RowKit Go.ChangeShapes Go.WideShapes

section
variable {H : Type} {enc : TypeId × Value → H} {P : Program} {w : World} {base : Nat} {sp : Nat → Bool} {held : Bool}

/-- A slice of structs of one-cell fields: where its cells lie, and how each reads. -/
theorem open_cells {t e : TypeId} {fs : Array Field} {a : Option Addr} {len cap : Nat} {d : DataW H} {p : List MemPlace} (ht : P.underlying t = some (.slice e)) (he : P.underlying e = some (.struct fs))
    (hone : Go.Deep.oneCellFields P fs = true) (hC : P.cellsOf e = fs.size) (hpos : 0 < fs.size) (h : DataW.Trod enc P w base sp held t (.slice a len cap) d p) :
    len ≤ 9223372036854775807 ∧ (0 < len → ∃ b off, a = some ⟨b, off, none⟩ ∧ b < w.heap.size ∧ ∀ i, i < len → ∀ (j : Nat) (f : Field), fs[j]? = some f →
      ∃ (v : Value) (x : DataW H × List MemPlace) (n : Nat), w.cell? ⟨b, off + (i * fs.size + j), none⟩ = some v ∧ DataW.trod enc P w base sp held n f.type [v] = some x) := by
  obtain ⟨fuel, hf⟩ := h
  rcases Go.Deep.open_slice ht hf with ⟨hcs, _⟩ | ⟨x, l, c, m, n, D, Pl, hcs, _, hl, hm, hmm, _, hi⟩
  · simp [Value.cells] at hcs
    obtain ⟨_, rfl, _⟩ := hcs
    exact ⟨by omega, fun h => absurd h (by omega)⟩
  · simp [Value.cells] at hcs
    obtain ⟨rfl, rfl, rfl⟩ := hcs
    have hlm : len ≤ m := by rw [hmm]; split <;> omega
    refine ⟨by unfold maxLen at hm; omega, fun hlen => ?_⟩
    have key : ∀ i, i < len → ∀ (j : Nat) (f : Field), fs[j]? = some f → ∃ (v : Value) (y : DataW H × List MemPlace) (k : Nat), w.cell? (x.add (i * fs.size + j)) = some v ∧ DataW.trod enc P w base sp held k f.type [v] = some y := by
      intro i hil j f hj
      obtain ⟨cs', hc, ht'⟩ := hi i (by omega)
      rw [hC] at hc
      obtain ⟨ys, n', _, _, hclen, hyl, hfld⟩ := DataW.trod_struct he ht'
      obtain ⟨_, hcl, hat⟩ := World.cells?_some hc
      obtain ⟨ho, hk⟩ := Go.Deep.hone_of hone j f hj
      have hjl : j < fs.size := (Array.getElem?_eq_some_iff.1 hj).1
      have h1 := hfld j f hj
      rw [ho, hk] at h1
      have h2 : (cs'.drop j).take 1 = [cs'[j]'(by omega)] := by
        rw [List.drop_eq_getElem_cons (by omega)]; rfl
      rw [h2, List.getElem?_eq_getElem (by omega : j < ys.length)] at h1
      refine ⟨_, _, n', ?_, h1⟩
      rw [← Go.Deep.add_add, hat j hjl, List.getElem?_eq_getElem (by omega)]
    obtain ⟨v, _, _, hv, _⟩ := key 0 hlen 0 fs[0] (by simp [hpos])
    have hs : x.spot = none := by
      have := World.cell?_spot hv
      simpa [Addr.add] using this
    obtain ⟨b, off, spot⟩ := x
    obtain rfl : spot = none := hs
    have ha : ∀ k, (⟨b, off, none⟩ : Addr).add k = ⟨b, off + k, none⟩ := fun k => by
      unfold Addr.add; split
      · rename_i h; subst h; rfl
      · rfl
    refine ⟨b, off, rfl, ?_, fun i hil j f hj => ?_⟩
    · have := World.block_lt_of_cell? w _ hv
      rw [ha] at this; exact this
    · obtain ⟨v, y, k, h1, h2⟩ := key i hil j f hj
      rw [ha] at h1
      exact ⟨v, y, k, h1, h2⟩

/-- A slice of whole numbers: its elements xs. -/
def Nums (k : IntKind) (w : World) (a : Option Addr) (n cap : Nat) (xs : List Int) : Prop :=
  xs.length = n ∧ n ≤ 9223372036854775807 ∧ (∀ x ∈ xs, (Lit.int k x).wf = true) ∧ Sl k w a cap xs
theorem open_nums {t e : TypeId} {k : IntKind} {a : Option Addr} {len cap : Nat} {d : DataW H} {p : List MemPlace} (ht : P.underlying t = some (.slice e)) (he : P.underlying e = some (.int k))
    (hC : P.cellsOf e = 1) (h : DataW.Trod enc P w base sp held t (.slice a len cap) d p) : ∃ xs, Nums k w a len cap xs := by
  obtain ⟨fuel, hf⟩ := h
  rcases open_ints ht he hC hf with ⟨hcs, _⟩ | ⟨x, l, c, zs, hcs, _, hl, hm, hz, _, hcell, hwz⟩
  · simp [Value.cells] at hcs
    obtain ⟨rfl, rfl, rfl⟩ := hcs
    exact ⟨[], rfl, by omega, by simp, Rd.nil_ 1 _⟩
  · simp [Value.cells] at hcs
    obtain ⟨rfl, rfl, rfl⟩ := hcs
    have hlz : len ≤ zs.length := by rw [hz]; split <;> omega
    have htl : (zs.take len).length = len := by simp [hlz]
    refine ⟨zs.take len, htl, by unfold maxLen at hm; omega, fun n hn => hwz n (List.mem_of_mem_take hn), ?_⟩
    unfold Sl
    rw [htl]
    refine ⟨by rw [nums_length, htl]; omega, hl, (fun h => by cases h), fun hlen => ?_⟩
    have hv := hcell 0 (by omega)
    have hs : x.spot = none := by
      have := World.cell?_spot hv
      simpa [Addr.add] using this
    obtain ⟨b, off, spot⟩ := x
    obtain rfl : spot = none := hs
    have ha : ∀ k, (⟨b, off, none⟩ : Addr).add k = ⟨b, off + k, none⟩ := fun k => by
      unfold Addr.add; split
      · rename_i h; subst h; rfl
      · rfl
    refine ⟨b, off, rfl, ?_, fun i v hi => ?_⟩
    · have := World.block_lt_of_cell? w _ hv
      rw [ha] at this; exact this
    · have hil : i < len := by have := (List.getElem?_eq_some_iff.1 hi).1; rwa [nums_length, htl] at this
      have := hcell i (by omega)
      rw [ha] at this
      rw [this, ← hi, nums_get (by rw [htl]; exact hil)]
      simp [List.getD_eq_getElem?_getD, hil]
end

/-- What is there for each place is there as a list. -/
theorem gather {α : Type} [Inhabited α] {Q : Nat → α → Prop} (n : Nat) (h : ∀ i, i < n → ∃ x, Q i x) : ∃ xs : List α, xs.length = n ∧ ∀ i, i < n → Q i (xs.getD i default) := by
  induction n with
  | zero => exact ⟨[], rfl, fun i hi => absurd hi (by omega)⟩
  | succ n ih =>
    obtain ⟨xs, hl, hq⟩ := ih fun i hi => h i (by omega)
    obtain ⟨x, hx⟩ := h n (by omega)
    refine ⟨xs ++ [x], by simp [hl], fun i hi => ?_⟩
    by_cases e : i = n
    · subst e
      simpa [List.getD_eq_getElem?_getD, ← hl] using hx
    · have := hq i (by omega)
      simpa [List.getD_eq_getElem?_getD, List.getElem?_append_left (show i < xs.length by omega)] using this
theorem all_of_getD {α : Type} [Inhabited α] {p : α → Prop} {xs : List α} {n : Nat} (hl : xs.length = n) (h : ∀ i, i < n → p (xs.getD i default)) : ∀ x ∈ xs, p x := by
  intro x hx
  obtain ⟨i, hi, rfl⟩ := List.mem_iff_getElem.1 hx
  have := h i (by omega)
  rwa [List.getD_eq_getElem?_getD, List.getElem?_eq_getElem hi] at this
theorem getD_mem {α : Type} [Inhabited α] {xs : List α} {i : Nat} (h : i < xs.length) : xs.getD i default ∈ xs := by
  rw [List.getD_eq_getElem?_getD, List.getElem?_eq_getElem h]; exact List.getElem_mem h

/-- An act of CellSwaps. -/
structure CAct where
  old : Int
  state : Int
  last : Bool
  clone : Bool
instance : Inhabited CAct := ⟨⟨0, 0, false, false⟩⟩
def ActsIn (w : World) (a : Option Addr) (n : Nat) (xs : List CAct) : Prop :=
  xs.length = n ∧ n ≤ 9223372036854775807 ∧ (∀ x ∈ xs, 0 ≤ x.old ∧ x.old < 18446744073709551616 ∧ -9223372036854775808 ≤ x.state ∧ x.state ≤ 9223372036854775807) ∧ (0 < n → ∃ b off, a = some ⟨b, off, none⟩ ∧ b < w.heap.size ∧ ∀ i, i < n →
    w.cell? ⟨b, off + i * 4, none⟩ = some (.int .u64 (xs.getD i default).old) ∧ w.cell? ⟨b, off + i * 4 + 1, none⟩ = some (.int .i64 (xs.getD i default).state) ∧
    w.cell? ⟨b, off + i * 4 + 2, none⟩ = some (.bool (xs.getD i default).last) ∧ w.cell? ⟨b, off + i * 4 + 3, none⟩ = some (.bool (xs.getD i default).clone))
/-- An act of layer 3's laws. -/
structure SAct where
  n : Int
  out : Bool
instance : Inhabited SAct := ⟨⟨0, false⟩⟩
def SActsIn (w : World) (a : Option Addr) (n : Nat) (xs : List SAct) : Prop :=
  xs.length = n ∧ n ≤ 9223372036854775807 ∧ (∀ x ∈ xs, 0 ≤ x.n ∧ x.n < 18446744073709551616) ∧ (0 < n → ∃ b off, a = some ⟨b, off, none⟩ ∧ b < w.heap.size ∧ ∀ i, i < n →
    w.cell? ⟨b, off + i * 2, none⟩ = some (.int .u64 (xs.getD i default).n) ∧ w.cell? ⟨b, off + i * 2 + 1, none⟩ = some (.bool (xs.getD i default).out))
theorem open_hackneylaw03_Act {H : Type} {enc : TypeId × Value → H} {w : World} {base : Nat} {sp : Nat → Bool} {held : Bool} {a : Option Addr} {len cap : Nat} {d : DataW H} {p : List MemPlace}
    (h : DataW.Trod enc Try.prog w base sp held 23 (.slice a len cap) d p) : ∃ xs, SActsIn w a len xs := by
  obtain ⟨hn, hc⟩ := open_cells Try.underlying23 Try.underlying33 (by kernel_rfl) (by kernel_rfl) (by decide) h
  by_cases h0 : 0 < len
  · obtain ⟨b, off, ha, hb, hi⟩ := hc h0
    obtain ⟨xs, hl, hq⟩ := gather (Q := fun i (x : SAct) => (0 ≤ x.n ∧ x.n < 18446744073709551616) ∧ w.cell? ⟨b, off + i * 2, none⟩ = some (.int .u64 x.n) ∧ w.cell? ⟨b, off + i * 2 + 1, none⟩ = some (.bool x.out)) len (by
      intro i hil
      obtain ⟨v0, x0, n0, c0, t0⟩ := hi i hil 0 _ rfl
      obtain ⟨v1, x1, n1, c1, t1⟩ := hi i hil 1 _ rfl
      obtain ⟨m0, e0, _, f0⟩ := DataW.trod_int Try.underlying31 t0
      obtain ⟨m1, e1, _⟩ := DataW.trod_bool Try.underlying4 t1
      simp only [List.cons.injEq, and_true] at e0 e1
      subst e0 e1
      have g0 := bounds_u64 f0
      refine ⟨⟨m0, m1⟩, ⟨g0.1, Int.lt_of_le_of_lt g0.2 (by decide)⟩, ?_, ?_⟩
      · simpa using c0
      · simpa [Nat.add_assoc] using c1)
    exact ⟨xs, hl, hn, all_of_getD hl fun i hi => (hq i hi).1, fun _ => ⟨b, off, ha, hb, fun i hil => (hq i hil).2⟩⟩
  · obtain rfl : len = 0 := by omega
    exact ⟨[], rfl, by omega, by simp, fun h => absurd h (by omega)⟩
theorem open_u64s {H : Type} {enc : TypeId × Value → H} {w : World} {base : Nat} {sp : Nat → Bool} {held : Bool} {a : Option Addr} {len cap : Nat} {d : DataW H} {p : List MemPlace}
    (h : DataW.Trod enc Try.prog w base sp held 22 (.slice a len cap) d p) : ∃ xs, Nums .u64 w a len cap xs := open_nums Try.underlying22 Try.underlying31 (by kernel_rfl) h

/-- An act of layer 5's laws. -/
structure WAct where
  do_ : Int
  key : Int
  at_ : Int
instance : Inhabited WAct := ⟨⟨0, 0, 0⟩⟩
def WActsIn (w : World) (a : Option Addr) (n : Nat) (xs : List WAct) : Prop :=
  xs.length = n ∧ n ≤ 9223372036854775807 ∧ (∀ x ∈ xs, 0 ≤ x.do_ ∧ x.do_ < 256 ∧ 0 ≤ x.key ∧ x.key < 18446744073709551616 ∧ 0 ≤ x.at_ ∧ x.at_ < 18446744073709551616) ∧ (0 < n → ∃ b off, a = some ⟨b, off, none⟩ ∧ b < w.heap.size ∧ ∀ i, i < n →
    w.cell? ⟨b, off + i * 3, none⟩ = some (.int .u8 (xs.getD i default).do_) ∧ w.cell? ⟨b, off + i * 3 + 1, none⟩ = some (.int .u64 (xs.getD i default).key) ∧ w.cell? ⟨b, off + i * 3 + 2, none⟩ = some (.int .u64 (xs.getD i default).at_))
end Go.Proofs.Ythjefbfhpdbcjaa
