/- The factory's laws: what keeps its state; sets of ids; an act's reading. -/
import Derived.Test.YtonfaojmphidpaaGreatDoorFacD
import Derived.Maps.RangeWalk
import Derived.Deep.Grids
namespace Go.Proofs.YtonfaojmphidpaaGreatDoor
open Go.RowKit Go.Maps Go.ChangeShapes Go.WideShapes
set_option linter.unusedVariables false
set_option linter.unusedSimpArgs false

/-- The numbers from 1 to n. -/
def upL : Nat → List Int
  | 0 => []
  | n + 1 => upL n ++ [(n : Int) + 1]
theorem mem_upL {n : Nat} {x : Int} : x ∈ upL n ↔ 1 ≤ x ∧ x ≤ n := by
  induction n with
  | zero => simp [upL]; omega
  | succ n ih => rw [upL, List.mem_append, ih, List.mem_singleton]; omega
theorem upL_length (n : Nat) : (upL n).length = n := by
  induction n with
  | zero => rfl
  | succ n ih => rw [upL, List.length_append, ih]; rfl
theorem openIds_count (S : List Int) (t : Nat) : (openIds S t).length + ((upL t).filter fun x => x ∈ S).length = t := by
  induction t with
  | zero => rfl
  | succ t ih =>
    rw [openIds, upL, List.filter_append, List.length_append, List.length_append]
    by_cases h : ((t : Int) + 1) ∈ S <;> simp [h] <;> omega
theorem openIds_len {S : List Int} {t : Nat} (hnd : S.Nodup) (hin : ∀ k ∈ S, 1 ≤ k ∧ k ≤ (t : Int)) : (openIds S t).length + S.length = t := by
  have h1 := openIds_count S t
  have hnu : (upL t).Nodup := by
    clear h1 hin
    induction t with
    | zero => exact List.nodup_nil
    | succ t ih =>
      rw [upL, List.nodup_append]
      exact ⟨ih, by simp, fun a ha b hb => by rw [mem_upL] at ha; rw [List.mem_singleton.1 hb]; omega⟩
  have hp : ((upL t).filter fun x => x ∈ S).Perm S := by
    refine (List.perm_ext_iff_of_nodup (hnu.filter _) hnd).2 fun x => ?_
    rw [List.mem_filter, mem_upL]
    constructor
    · rintro ⟨_, h⟩; simpa using h
    · intro h; exact ⟨hin x h, by simpa using h⟩
  rw [hp.length_eq] at h1; exact h1
theorem St.nodup {w : World} {b : Nat} {S : List Int} (h : St w b S) : S.Nodup := by obtain ⟨D, _, h2⟩ := h; exact h2.nodup
theorem St.grew {w w' : World} {b : Nat} {S : List Int} {T : Nat → Prop} (h : St w b S) (hg : Grew w w' T) (hn : ¬ T b) : St w' b S := by
  obtain ⟨D, ⟨es, clock, h1, h2⟩, hT⟩ := h
  have hl : b < w.heap.size := (Array.getElem?_eq_some_iff.1 h1).1
  exact ⟨D, ⟨es, clock, (hg.block b hl hn).trans h1, h2⟩, hT⟩
/-- A factory, kept while other blocks turn. -/
theorem Fc.grew {w w' : World} {g b : Nat} {a1 : Option Addr} {c1 : Nat} {xs : List Bool} {a2 : Option Addr} {c2 : Nat} {ys : List Bool} {t : Int} {S : List Int} {T : Nat → Prop} (h : Fc w g b a1 c1 xs a2 c2 ys t S) (hg : Grew w w' T) (h1 : ¬ T g) (h2 : ¬ T b)
    (h3 : ∀ q, a1 = some q → 0 < xs.length → ¬ T q.block) (h4 : ∀ q, a2 = some q → 0 < ys.length → ¬ T q.block) : Fc w' g b a1 c1 xs a2 c2 ys t S :=
  ⟨h.blk.grew hg h1, h.r1.grew hg h3, h.r2.grew hg h4, h.st.grew hg h2, h.t0, h.t1, h.in_, h.l1, h.l2⟩
/-- A map other than its own is turned. -/
theorem Fc.mapTurned {w w' : World} {g b m : Nat} {a1 : Option Addr} {c1 : Nat} {xs : List Bool} {a2 : Option Addr} {c2 : Nat} {ys : List Bool} {t : Int} {S : List Int} (h : Fc w g b a1 c1 xs a2 c2 ys t S) (hm : ∀ off, w.cell? ⟨m, off, none⟩ = none) (hne : b ≠ m) (hg : w.grownBy w' (some m)) : Fc w' g b a1 c1 xs a2 c2 ys t S := by
  have hgm : g ≠ m := fun e => by subst e; have := hm 0; rw [h.blk.cell 0] at this; simp at this
  exact ⟨(hg.block g h.blk.lt (fun e => hgm (Option.some.inj e))).trans h.blk, Rd.keptM (by decide) h.r1 hm hg, Rd.keptM (by decide) h.r2 hm hg, h.st.kept hg (fun e => hne (Option.some.inj e)), h.t0, h.t1, h.in_, h.l1, h.l2⟩

theorem wpList_next_ranges_ib {P : Program} (w : World) {ops : Array Oper} {Q : Exit → Act → World → Prop} {rest : List Oper} {o : Oper} {a : Act} (hg : o.guard = none) (it : Operand) (hop : o.op = Op.next it false) (k e : TypeId) (qk : IntKind) (K : Keyed P k) (hk : P.underlying k = some (.int qk)) (he : P.underlying e = some .bool)
    (b r n : Nat) (D : DataW Unit) (left : Lit → Bool) (cnt : Nat) (hit : a.eval it = .pointer (some ⟨r, 0, none⟩)) (h : w.ranges P k (plainElem P e) b r n D left cnt)
    (hDone : cnt = 0 → (∀ kl, left kl = false) → wpList P ops Q rest (a.put o.dst (.tuple #[.bool false])) w)
    (hMore : ∀ (x : Int) (c : Bool) (w' : World) (cnt' : Nat), (Lit.int qk x).wf = true → left (.int qk x) = true → (∀ zd, D.atKey (.int qk x) zd = .lit (.bool c)) → w'.ranges P k (plainElem P e) b r n D (fun z => left z && !z.sameKey (.int qk x)) cnt' → cnt' < cnt →
      w.grownBy w' (some r) → w'.heap.size = w.heap.size → (Instr.entry (.pointer (some ⟨r, 0, none⟩))).run P w' = .ok (.tuple #[.int qk x, .bool c]) w' → wpList P ops Q rest (a.put o.dst (.tuple #[.bool true, .int qk x, .bool c])) w') :
    wpList P ops Q (o :: rest) a w := by
  have inv : ∀ v y, plainElem (H := Unit) P e v = some y → ∃ c, v = .bool c ∧ y.1 = .lit (.bool c) := by
    intro v y hv
    cases v <;> simp [plainElem, he] at hv
    subst hv
    exact ⟨_, rfl, rfl⟩
  refine wpList_next_ranges w hg it hop k K (plainElem P e) (Value.int qk) Value.bool (fun key kl hkey => by obtain ⟨x, rfl, _⟩ := Maps.keyOf_int_inv hk hkey; exact ⟨x, rfl⟩) (fun v y hv => by obtain ⟨c, rfl, _⟩ := inv v y hv; exact ⟨c, rfl⟩)
    b r n D left cnt hit h hDone (fun x c kl y w' cnt' hkey hlk hv hat hrg hlt hgr hsz hen => by
      obtain ⟨x', ex, rfl, hwx⟩ := Maps.keyOf_int_inv hk hkey
      cases ex
      obtain ⟨c', ec, hc'⟩ := inv _ _ hv
      cases ec
      rw [hc'] at hat
      exact hMore x c w' cnt' hwx hlk hat hrg hlt hgr hsz hen)

/-- The step over a set of keys: each is one of S. -/
theorem wpList_next_set (w : World) {ops : Array Oper} {Q : Exit → Act → World → Prop} {rest : List Oper} {o : Oper} {a : Act} (hg : o.guard = none) (it : Operand) (hop : o.op = Op.next it false)
    (b r n : Nat) (D : DataW Unit) (S : List Int) (hT : TabS D S) (left : Lit → Bool) (cnt : Nat) (hit : a.eval it = .pointer (some ⟨r, 0, none⟩)) (h : w.ranges Tryz.prog 28 (plainElem Tryz.prog 4) b r n D left cnt)
    (hDone : cnt = 0 → (∀ kl, left kl = false) → wpList Tryz.prog ops Q rest (a.put o.dst (.tuple #[.bool false])) w)
    (hMore : ∀ (x : Int) (w' : World) (cnt' : Nat), x ∈ S → w'.ranges Tryz.prog 28 (plainElem Tryz.prog 4) b r n D (fun z => left z && !z.sameKey (.int .u64 x)) cnt' → cnt' < cnt →
      w.grownBy w' (some r) → w'.heap.size = w.heap.size → (Instr.entry (.pointer (some ⟨r, 0, none⟩))).run Tryz.prog w' = .ok (.tuple #[.int .u64 x, .bool true]) w' → wpList Tryz.prog ops Q rest (a.put o.dst (.tuple #[.bool true, .int .u64 x, .bool true])) w') :
    wpList Tryz.prog ops Q (o :: rest) a w :=
  wpList_next_ranges_ib w hg it hop 28 4 .u64 lawU Tryz.underlying28 Tryz.underlying4 b r n D left cnt hit h hDone (fun x c w' cnt' hwx hlk hat hrg hlt hgr hsz hen => by
    have hhas : x ∈ S := by
      have h0 : Maps.has D (K64 x) = true := has_true_of_atKey hat
      rw [hT.has_] at h0; simpa using h0
    have hc : c = true := by
      have h1 := (hat (.lit (K64 0))).symm.trans (hT.at_ x hhas (.lit (K64 0)))
      injection h1 with h1
      injection h1
    subst hc
    exact hMore x w' cnt' hhas hrg hlt hgr hsz hen)

/-- An act of layer 10's laws. -/
structure FAct where
  do_ : Int
  id : Int
instance : Inhabited FAct := ⟨⟨0, 0⟩⟩
def FActsIn (w : World) (a : Option Addr) (n : Nat) (xs : List FAct) : Prop :=
  xs.length = n ∧ n ≤ 9223372036854775807 ∧ (∀ x ∈ xs, 0 ≤ x.do_ ∧ x.do_ < 256 ∧ 0 ≤ x.id ∧ x.id < 18446744073709551616) ∧ (0 < n → ∃ b off, a = some ⟨b, off, none⟩ ∧ b < w.heap.size ∧ ∀ i, i < n →
    w.cell? ⟨b, off + i * 2, none⟩ = some (.int .u8 (xs.getD i default).do_) ∧ w.cell? ⟨b, off + i * 2 + 1, none⟩ = some (.int .u64 (xs.getD i default).id))
theorem open_hackneylaw10_Act {H : Type} {enc : TypeId × Value → H} {w : World} {base : Nat} {sp : Nat → Bool} {held : Bool} {a : Option Addr} {len cap : Nat} {d : DataW H} {p : List MemPlace}
    (h : DataW.Trod enc Tryz.prog w base sp held 23 (.slice a len cap) d p) : ∃ xs, FActsIn w a len xs := by
  obtain ⟨hn, hc⟩ := open_cells Tryz.underlying23 Tryz.underlying30 (by kernel_rfl) (by kernel_rfl) (by decide) h
  by_cases h0 : 0 < len
  · obtain ⟨b, off, ha, hb, hi⟩ := hc h0
    obtain ⟨xs, hl, hq⟩ := gather (Q := fun i (x : FAct) => (0 ≤ x.do_ ∧ x.do_ < 256 ∧ 0 ≤ x.id ∧ x.id < 18446744073709551616) ∧
        w.cell? ⟨b, off + i * 2, none⟩ = some (.int .u8 x.do_) ∧ w.cell? ⟨b, off + i * 2 + 1, none⟩ = some (.int .u64 x.id)) len (by
      intro i hil
      obtain ⟨v0, x0, n0, c0, t0⟩ := hi i hil 0 _ rfl
      obtain ⟨v1, x1, n1, c1, t1⟩ := hi i hil 1 _ rfl
      obtain ⟨m0, e0, _, f0⟩ := DataW.trod_int Tryz.underlying5 t0
      obtain ⟨m1, e1, _, f1⟩ := DataW.trod_int Tryz.underlying28 t1
      simp only [List.cons.injEq, and_true] at e0 e1
      subst e0 e1
      have g0 := bounds_u8 f0
      have g1 := bounds_u64 f1
      refine ⟨⟨m0, m1⟩, ⟨g0.1, Int.lt_of_le_of_lt g0.2 (by decide), g1.1, Int.lt_of_le_of_lt g1.2 (by decide)⟩, ?_, ?_⟩
      · simpa using c0
      · simpa [Nat.add_assoc] using c1)
    exact ⟨xs, hl, hn, all_of_getD hl fun i hi => (hq i hi).1, fun _ => ⟨b, off, ha, hb, fun i hil => (hq i hil).2⟩⟩
  · obtain rfl : len = 0 := by omega
    exact ⟨[], rfl, by omega, by simp, fun h => absurd h (by omega)⟩
/-- A slice of bools: its elements. -/
def BoolsIn (w : World) (a : Option Addr) (n cap : Nat) (xs : List Bool) : Prop := xs.length = n ∧ n ≤ 9223372036854775807 ∧ Bs w a cap xs
theorem open_boolsIn {H : Type} {enc : TypeId × Value → H} {w : World} {base : Nat} {held : Bool} {a : Option Addr} {len cap : Nat} {d : DataW H} {p : List MemPlace}
    (h : DataW.Trod enc Tryz.prog w base (fun _ => true) held 22 (.slice a len cap) d p) : ∃ xs, BoolsIn w a len cap xs := by
  obtain ⟨fuel, hf⟩ := h
  rcases Go.Deep.open_bools Tryz.underlying22 Tryz.underlying4 (by kernel_rfl) hf with ⟨hcs, _⟩ | ⟨x, l, c, Z, hcs, _, hl, hm, _, hcell⟩
  · simp [Value.cells] at hcs
    obtain ⟨rfl, rfl, rfl⟩ := hcs
    exact ⟨[], rfl, by omega, Rd.nil_ 1 _⟩
  · simp [Value.cells] at hcs
    obtain ⟨rfl, rfl, rfl⟩ := hcs
    have hlen : ((List.range len).map Z).length = len := by simp
    refine ⟨(List.range len).map Z, hlen, by unfold maxLen at hm; omega, ?_⟩
    unfold Bs
    rw [hlen]
    refine ⟨by simp [bools], hl, (fun h => by cases h), fun h0 => ?_⟩
    have hv := hcell 0 (by omega)
    have hs : x.spot = none := by
      have := World.cell?_spot hv
      simpa [Addr.add] using this
    obtain ⟨b, off, spot⟩ := x
    obtain rfl : spot = none := hs
    have ha : ∀ k, (⟨b, off, none⟩ : Addr).add k = ⟨b, off + k, none⟩ := fun k => by
      unfold Addr.add; split
      · rename_i h; subst h; rfl
      · rfl
    refine ⟨b, off, rfl, ?_, fun i v hi => ?_⟩
    · have := World.block_lt_of_cell? w _ hv
      rw [ha] at this; exact this
    · have hil : i < len := by have := (List.getElem?_eq_some_iff.1 hi).1; simpa [bools] using this
      have := hcell i (by omega)
      rw [ha] at this
      rw [this, ← hi]
      simp [bools, hil]
end Go.Proofs.YtonfaojmphidpaaGreatDoor
