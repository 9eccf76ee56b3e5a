/- append, at the operation: onto a row of the call's own; onto whatever has no room left. -/
import Derived.Test.YthjefbfhpdbcjaaMem
import Derived.Maps.AppendAt
import Derived.ArgAppend
namespace Go.Proofs.Ythjefbfhpdbcjaa
open Go.RowKit
set_option linter.unusedVariables false

/-- The slice at a, of n elements of so many cells each, reads as the cells cs. -/
def Rd (size : Nat) (w : World) (a : Option Addr) (n cap : Nat) (cs : List Value) : Prop :=
  cs.length = n * size ∧ n ≤ cap ∧ (a = none → cap = 0) ∧ (0 < n → ∃ b off, a = some ⟨b, off, none⟩ ∧ b < w.heap.size ∧ ∀ i v, cs[i]? = some v → w.cell? ⟨b, off + i, none⟩ = some v)
section
variable {size n cap : Nat} {w w' : World} {a : Option Addr} {cs : List Value}
theorem Rd.below (h : Rd size w a n cap cs) (hb : Below w.heap.size w w') : Rd size w' a n cap cs :=
  ⟨h.1, h.2.1, h.2.2.1, fun h0 => by
    obtain ⟨b, off, ha, hlt, hc⟩ := h.2.2.2 h0
    exact ⟨b, off, ha, Nat.lt_of_lt_of_le hlt hb.size, fun i v hi => (hb.cell (p := ⟨b, off + i, none⟩) hlt).trans (hc i v hi)⟩⟩
theorem Rd.alloc (h : Rd size w a n cap cs) (o : Obj) : Rd size (w.alloc o) a n cap cs := h.below ((Below.refl _ _).alloc (Nat.le_refl _) o)
theorem Rd.drewN (h : Rd size w a n cap cs) (k : Nat) : Rd size (w.drewN k) a n cap cs := h
theorem Rd.nil_ (size : Nat) (w : World) : Rd size w none 0 0 [] := ⟨by simp, Nat.le_refl _, fun _ => rfl, fun h => absurd h (by omega)⟩
/-- What is not touched stays. -/
theorem Rd.keep (h : Rd size w a n cap cs) (hsz : w.heap.size ≤ w'.heap.size) {r : Nat} (hk : ∀ k, k < w.heap.size → k ≠ r → w'.heap[k]? = w.heap[k]?) (hr : ∀ p, a = some p → p.block ≠ r) : Rd size w' a n cap cs :=
  ⟨h.1, h.2.1, h.2.2.1, fun h0 => by
    obtain ⟨b, off, ha, hlt, hc⟩ := h.2.2.2 h0
    exact ⟨b, off, ha, Nat.lt_of_lt_of_le hlt hsz, fun i v hi => (World.cell?_of_block (w := w) (a := ⟨b, off + i, none⟩) (hk b hlt (hr _ ha))).trans (hc i v hi)⟩⟩
theorem Rd.far (h : Rd size w a n cap cs) {p : Addr} (hp : ∀ q, a = some q → q.block ≠ p.block) (u : Value) : Rd size (w.setCell p u) a n cap cs :=
  h.keep (by rw [size_setCell]; exact Nat.le_refl _) (r := p.block) (fun k _ hk => Below.heap_setCell w p u k hk) hp
theorem Rd.of_own {base : Nat} {e : TypeId} {v : Value} (h : w.ownsRow base e size v n cs) : ∃ a cap, v = .slice a n cap ∧ Rd size w a n cap cs := by
  obtain ⟨hl, hv⟩ := h
  rcases hv with ⟨rfl, rfl⟩ | ⟨g, c, cur, rfl, _, hg, hn, _, hs, ht⟩
  · exact ⟨none, 0, rfl, hl, Nat.le_refl _, fun _ => rfl, fun h => absurd h (by omega)⟩
  · refine ⟨_, c, rfl, hl, hn, (fun h => by cases h), fun _ => ⟨g, 0, rfl, (Array.getElem?_eq_some_iff.1 hg).1, fun i v hi => ?_⟩⟩
    rw [cell_of_row w g (0 + i) cur e (0, 0) hg, Nat.zero_add]
    rw [← ht, List.getElem?_take] at hi
    split at hi
    · simpa using hi
    · cases hi
end

theorem own_slice {w : World} {base n : Nat} {e : TypeId} {size : Nat} {v : Value} {xs : List Value} (h : w.ownsRow base e size v n xs) : ∃ A c, v = .slice A n c := by
  rcases h.2 with ⟨rfl, rfl⟩ | ⟨g, cap, cur, rfl, _⟩
  · exact ⟨none, 0, rfl⟩
  · exact ⟨_, cap, rfl⟩
theorem own_base {w : World} {base : Nat} {e : TypeId} {size n : Nat} {v : Value} {xs : List Value} (h : w.ownsRow base e size v n xs) (k : Nat) (hk : v.ownBlock = some k) : base ≤ k := (h.lt k hk).1
theorem own_below {w w1 : World} {base : Nat} {e : TypeId} {size n : Nat} {v : Value} {xs : List Value} (h : w.ownsRow base e size v n xs) (hb : Below w.heap.size w w1) : w1.ownsRow base e size v n xs :=
  h.kept (row := none) ⟨hb.os, hb.tape, hb.output, hb.size, fun i hi _ => hb.block i hi⟩ (by cases v.ownBlock <;> simp)
theorem own_addr {w : World} {base n c : Nat} {e : TypeId} {size : Nat} {q : Addr} {xs : List Value} (h : w.ownsRow base e size (.slice (some q) n c) n xs) : base ≤ q.block ∧ q.block < w.heap.size := h.lt q.block rfl
theorem own_rd {w : World} {base n c : Nat} {e : TypeId} {size : Nat} {A : Option Addr} {xs : List Value} (h : w.ownsRow base e size (.slice A n c) n xs) : Rd size w A n c xs := by
  obtain ⟨a', c', hv, hr⟩ := Rd.of_own h
  simp only [Value.slice.injEq] at hv
  obtain ⟨rfl, _, rfl⟩ := hv
  exact hr
theorem own_mono {w : World} {B B' : Nat} {e : TypeId} {size n : Nat} {v : Value} {xs : List Value} (h : w.ownsRow B e size v n xs) (hB : B' ≤ B) : w.ownsRow B' e size v n xs :=
  ⟨h.1, h.2.imp id fun ⟨g, cap, cur, hv, hb, r⟩ => ⟨g, cap, cur, hv, Nat.le_trans hB hb, r⟩⟩
theorem own_drewN {w : World} {base : Nat} {e : TypeId} {size n : Nat} {v : Value} {xs : List Value} (h : w.ownsRow base e size v n xs) (k : Nat) : (w.drewN k).ownsRow base e size v n xs := h

/-- Where a slice lies that a call hands back: where the old one lay, or in a new block. -/
def Loc (B : Nat) (a a' : Option Addr) : Prop := a' = a ∨ ∀ q, a' = some q → B ≤ q.block
section
variable {P : Program} {ops : Array Oper} {rest : List Oper} {o : Oper} {a : Act} {Q : Exit → Act → World → Prop}

theorem run_app_own (w : World) (base : Nat) (t ty e : TypeId) (z : Value) (size bytes : Nat) (ht : P.underlying t = some (.slice e))
    (hinfo : (P.info? e).map (fun i => (i.zero, i.size, i.bytes)) = some (some z, size, bytes)) (hz : z.cells.size = size) (hs0 : 0 < size)
    (v : Value) (n : Nat) (olds : List Value) (HO : w.ownsRow base e size v n olds)
    (A : Option Addr) (m c : Nat) (news : List Value) (HR : Rd size w A m c news) (h1 : ∀ u ∈ news, u.oneCell' = true)
    (h63 : n + m ≤ 9223372036854775807) (hl : (n + m) * bytes ≤ 140737488355328) (hbase : base ≤ w.heap.size) :
    ∃ A1 c1 w1, (Builtin.append_ #[t, t] ty #[v, .slice A m c]).run P w = .ok (.slice A1 (n + m) c1) w1 ∧ w1.ownsRow base e size (.slice A1 (n + m) c1) (n + m) (olds ++ news) ∧ w.grownBy w1 v.ownBlock ∧
      ((Value.slice A1 (n + m) c1).ownBlock = v.ownBlock ∨ (Value.slice A1 (n + m) c1).ownBlock = some w.heap.size) := by
  obtain ⟨i0, hi, hzz⟩ := Option.map_eq_some_iff.1 hinfo
  simp only [Prod.mk.injEq] at hzz
  obtain ⟨hz0, hz1, hz2⟩ := hzz
  have hm : n + m ≤ maxLen := by unfold maxLen; omega
  by_cases h0 : A = none
  · subst h0
    obtain ⟨hnl, hmc, hcap, _⟩ := HR
    have := hcap rfl
    obtain rfl : m = 0 := by omega
    have hn : news = [] := List.eq_nil_of_length_eq_zero (by simpa using hnl)
    subst hn
    obtain ⟨A1, c1, rfl⟩ := own_slice HO
    refine ⟨A1, c1, w, ?_, by simpa using HO, World.grownBy.refl w _, .inl rfl⟩
    rcases HO.2 with ⟨hv, hn0⟩ | ⟨g, cp, cur, hv, _, _, hnc, _⟩
    · simp only [Value.slice.injEq] at hv
      obtain ⟨rfl, rfl, rfl⟩ := hv
      simp [Builtin.append_, run_underlying ht, sizeOf, typeInfo, hi, Builtin.lenOf, Builtin.firstCells]
    · simp only [Value.slice.injEq] at hv
      obtain ⟨rfl, _, rfl⟩ := hv
      simp [Builtin.append_, run_underlying ht, sizeOf, typeInfo, hi, Builtin.lenOf, Builtin.firstCells, hnc, storeCells]
  · obtain ⟨ad, rfl⟩ := Option.ne_none_iff_exists'.1 h0
    have hcells : ∀ j u, news[j]? = some u → w.cell? (ad.add j) = some u := by
      intro j u hu
      rcases Nat.eq_zero_or_pos m with hm0 | hm0
      · have : news = [] := List.eq_nil_of_length_eq_zero (by rw [HR.1, hm0]; simp)
        subst this; simp at hu
      · obtain ⟨b, off, hb, _, hc⟩ := HR.2.2.2 hm0
        injection hb with hb
        subst hb
        have ha : (⟨b, off, none⟩ : Addr).add j = ⟨b, off + j, none⟩ := by
          unfold Addr.add; split
          · rename_i h; subst h; rfl
          · rfl
        rw [ha]; exact hc j u hu
    obtain ⟨v', w', hrun, h2, h3, _, h5⟩ := run_append_own_at (P := P) w base t ty e i0 z size bytes ht hi hz0 hz1 hz2 hz hs0 v n olds HO ad m c news HR.1 hcells h1 hm hl hbase
    obtain ⟨A1, c1, rfl⟩ := own_slice h2
    exact ⟨A1, c1, w', hrun, h2, h3, h5⟩

/-- append(v, xs...): v a row of the call's own (nil or not), xs whatever reads. -/
theorem app_own (w : World) (hgd : o.guard = none) (s x : Operand) (t : TypeId) (ho : o.op = .call { callee := .builtin .append, args := #[s, x], argTypes := #[t, t] })
    (base : Nat) (e : TypeId) (z : Value) (size bytes : Nat) (ht : P.underlying t = some (.slice e))
    (hinfo : (P.info? e).map (fun i => (i.zero, i.size, i.bytes)) = some (some z, size, bytes)) (hz : z.cells.size = size) (hs0 : 0 < size)
    (v : Value) (n : Nat) (olds : List Value) (hs : a.eval s = v) (HO : w.ownsRow base e size v n olds)
    (A : Option Addr) (m c : Nat) (news : List Value) (hx : a.eval x = .slice A m c) (HR : Rd size w A m c news) (h1 : ∀ u ∈ news, u.oneCell' = true)
    (h63 : n + m ≤ 9223372036854775807) (hl : (n + m) * bytes ≤ 140737488355328) (hbase : base ≤ w.heap.size)
    (h : ∀ A1 c1 w1, w1.ownsRow base e size (.slice A1 (n + m) c1) (n + m) (olds ++ news) → w.grownBy w1 v.ownBlock →
      ((Value.slice A1 (n + m) c1).ownBlock = v.ownBlock ∨ (Value.slice A1 (n + m) c1).ownBlock = some w.heap.size) → wpList P ops Q rest (a.put o.dst (.slice A1 (n + m) c1)) w1) : wpList P ops Q (o :: rest) a w := by
  refine wpList_plain hgd fun K hK => ?_
  obtain ⟨A1, c1, w1, hrun, h2, h3, h4⟩ := run_app_own (P := P) w base t o.type e z size bytes ht hinfo hz hs0 v n olds HO A m c news HR h1 h63 hl hbase
  unfold Oper.wp execOp
  simp only [ho, resolve, invoke, builtin, Sem.run_bind, Sem.run_pure, Result.andThen_ok, List.map_toArray, List.map_cons, List.map_nil, hs, hx, hrun]
  exact hK _ _ (h A1 c1 w1 h2 h3 h4)

/-- append(v, y) of one element of one cell, v a row of the call's own. The element lies boxed in a new block. -/
theorem app_one (w : World) (hgd : o.guard = none) (s x : Operand) (t : TypeId) (ho : o.op = .call { callee := .builtin .append, args := #[s, x], argTypes := #[t, t] })
    (base : Nat) (e : TypeId) (z : Value) (size bytes : Nat) (ht : P.underlying t = some (.slice e))
    (hinfo : (P.info? e).map (fun i => (i.zero, i.size, i.bytes)) = some (some z, size, bytes)) (hz : z.cells.size = size) (hs0 : 0 < size)
    (v : Value) (n : Nat) (olds : List Value) (hs : a.eval s = v) (HO : w.ownsRow base e size v n olds)
    (ys : List Value) (hy : ys.length = size) (hx : a.eval x = .slice (some ⟨w.heap.size, 0, none⟩) 1 1) (h1 : ∀ u ∈ ys, u.oneCell' = true)
    (h63 : n + 1 ≤ 9223372036854775807) (hl : (n + 1) * bytes ≤ 140737488355328) (hbase : base ≤ w.heap.size)
    (h : ∀ A1 c1 w1, w1.ownsRow base e size (.slice A1 (n + 1) c1) (n + 1) (olds ++ ys) → w.grownBy w1 v.ownBlock →
      ((Value.slice A1 (n + 1) c1).ownBlock = v.ownBlock ∨ ∃ b, (Value.slice A1 (n + 1) c1).ownBlock = some b ∧ w.heap.size ≤ b) → wpList P ops Q rest (a.put o.dst (.slice A1 (n + 1) c1)) w1) :
    wpList P ops Q (o :: rest) a (w.alloc (.cells ys.toArray e)) := by
  have HR : Rd size (w.alloc (.cells ys.toArray e)) (some ⟨w.heap.size, 0, none⟩) 1 1 ys :=
    ⟨by simp [hy], Nat.le_refl _, (fun h => by cases h), fun _ => ⟨w.heap.size, 0, rfl, by simp, fun i v hi => by
      have := (Blk.new w e ys.toArray).cell (0 + i)
      rw [this, Nat.zero_add]; simpa using hi⟩⟩
  refine app_own (w.alloc _) hgd s x t ho base e z size bytes ht hinfo hz hs0 v n olds hs (HO.alloc _) _ 1 1 ys hx HR h1 h63 hl (by simp; omega) fun A1 c1 w1 h2 h3 h4 => h A1 c1 w1 h2 (World.grownBy.trans (World.grownBy_alloc w _ _) h3) ?_
  rcases h4 with h4 | h4
  · exact .inl h4
  · exact .inr ⟨_, h4, by simp⟩

/-- append(s, y) of one element, where s has no room left: a new row. -/
theorem app_grow_one (w : World) (hgd : o.guard = none) (s x : Operand) (t : TypeId) (ho : o.op = .call { callee := .builtin .append, args := #[s, x], argTypes := #[t, t] })
    (e : TypeId) (z : Value) (size bytes : Nat) (ht : P.underlying t = some (.slice e))
    (hinfo : (P.info? e).map (fun i => (i.zero, i.size, i.bytes)) = some (some z, size, bytes)) (hz : z.cells.size = size) (hs0 : 0 < size)
    (A : Option Addr) (n : Nat) (olds : List Value) (hs : a.eval s = .slice A n n) (HR : Rd size w A n n olds)
    (ys : List Value) (hy : ys.length = size) (hx : a.eval x = .slice (some ⟨w.heap.size, 0, none⟩) 1 1) (h1 : ∀ u ∈ ys, u.oneCell' = true)
    (h63 : n + 1 ≤ 9223372036854775807) (hl : (n + 1) * bytes ≤ 140737488355328)
    (h : ∀ A1 c1 w1, w1.ownsRow w.heap.size e size (.slice A1 (n + 1) c1) (n + 1) (olds ++ ys) → Below w.heap.size w w1 → wpList P ops Q rest (a.put o.dst (.slice A1 (n + 1) c1)) w1) :
    wpList P ops Q (o :: rest) a (w.alloc (.cells ys.toArray e)) := by
  obtain ⟨i0, hi, hzz⟩ := Option.map_eq_some_iff.1 hinfo
  simp only [Prod.mk.injEq] at hzz
  obtain ⟨hz0, hz1, hz2⟩ := hzz
  have hcells : ∀ j u, ys[j]? = some u → (w.alloc (.cells ys.toArray e)).cell? ((⟨w.heap.size, 0, none⟩ : Addr).add j) = some u := by
    intro j u hu
    have ha : (⟨w.heap.size, 0, none⟩ : Addr).add j = ⟨w.heap.size, j, none⟩ := by unfold Addr.add; split <;> simp_all
    rw [ha, (Blk.new w e ys.toArray).cell j]; simpa using hu
  have holds : ∀ b, A = some b → ∀ j u, olds[j]? = some u → (w.alloc (.cells ys.toArray e)).cell? (b.add j) = some u := by
    intro b hb j u hu
    have hn : 0 < n := by
      rcases Nat.eq_zero_or_pos n with h0 | h0
      · have : olds = [] := List.eq_nil_of_length_eq_zero (by rw [HR.1, h0]; simp)
        subst this; simp at hu
      · exact h0
    obtain ⟨b', off, hb', _, hc⟩ := (HR.alloc (.cells ys.toArray e)).2.2.2 hn
    rw [hb] at hb'
    injection hb' with hb'
    subst hb'
    have ha : (⟨b', off, none⟩ : Addr).add j = ⟨b', off + j, none⟩ := by
      unfold Addr.add; split
      · rename_i h; subst h; rfl
      · rfl
    rw [ha]; exact hc j u hu
  refine wpList_append_grows (w.alloc _) hgd s x t ho e i0 z size bytes ht hi hz0 hz1 hz2 hz hs0 A n n olds hs (fun hn => by have := HR.2.2.1 hn; omega) HR.1 holds _ 1 1 ys hx (by simp [hy]) hcells h1 (by omega) (by unfold maxLen; omega) hl
    fun v' w' h2 h3 => ?_
  obtain ⟨A1, c1, rfl⟩ := own_slice h2
  refine h A1 c1 w' ?_ ?_
  · refine ⟨h2.1, ?_⟩
    rcases h2.2 with h4 | ⟨g, cp, cur, hv, hb, r⟩
    · exact .inl h4
    · exact .inr ⟨g, cp, cur, hv, by simp at hb; omega, r⟩
  · exact ((Below.refl _ w).alloc (Nat.le_refl _) _).grown h3 (by simp) (fun k hk => by cases hk)
end
end Go.Proofs.Ythjefbfhpdbcjaa
