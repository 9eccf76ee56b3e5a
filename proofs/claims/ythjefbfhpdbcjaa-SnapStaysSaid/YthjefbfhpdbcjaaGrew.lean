/- A world that has grown, and in which some blocks were turned. -/
import Derived.Test.YthjefbfhpdbcjaaRows2
namespace Go.Proofs.Ythjefbfhpdbcjaa
open Go.RowKit
set_option linter.unusedVariables false

/-- w' is w, but for new blocks and the blocks in S. -/
structure Grew (w w' : World) (S : Nat → Prop) : Prop where
  os : w'.os = w.os
  tape : w'.tape = w.tape
  output : w'.output = w.output
  size : w.heap.size ≤ w'.heap.size
  block : ∀ k, k < w.heap.size → ¬ S k → w'.heap[k]? = w.heap[k]?
section
variable {w w' w'' : World} {S T : Nat → Prop}
theorem Grew.refl (w : World) (S : Nat → Prop) : Grew w w S := ⟨rfl, rfl, rfl, Nat.le_refl _, fun _ _ _ => rfl⟩
theorem Grew.mono (h : Grew w w' S) (hs : ∀ k, k < w.heap.size → S k → T k) : Grew w w' T := ⟨h.os, h.tape, h.output, h.size, fun k hk hn => h.block k hk (fun hS => hn (hs k hk hS))⟩
theorem Grew.trans (h : Grew w w' S) (h' : Grew w' w'' T) (ht : ∀ k, k < w.heap.size → T k → S k) : Grew w w'' S :=
  ⟨h'.os.trans h.os, h'.tape.trans h.tape, h'.output.trans h.output, Nat.le_trans h.size h'.size, fun k hk hn => (h'.block k (Nat.lt_of_lt_of_le hk h.size) (fun hT => hn (ht k hk hT))).trans (h.block k hk hn)⟩
theorem Grew.of_below (h : Below w.heap.size w w') (S : Nat → Prop) : Grew w w' S := ⟨h.os, h.tape, h.output, h.size, fun k hk _ => h.block k hk⟩
theorem Grew.of_grown {r : Option Nat} (h : w.grownBy w' r) (hs : ∀ k, r = some k → S k) : Grew w w' S := ⟨h.os, h.tape, h.output, h.size, fun k hk hn => h.block k hk (fun e => hn (hs k e.symm))⟩
theorem Grew.set (w : World) (p : Addr) (u : Value) : Grew w (w.setCell p u) (· = p.block) :=
  ⟨rfl, rfl, rfl, by rw [size_setCell]; exact Nat.le_refl _, fun k _ hn => Below.heap_setCell w p u k hn⟩
theorem Grew.drew (h : Grew w w' S) : Grew w w'.drew S := ⟨h.os, h.tape, h.output, h.size, h.block⟩
theorem Grew.drewN (h : Grew w w' S) (n : Nat) : Grew w (w'.drewN n) S := ⟨h.os, h.tape, h.output, h.size, h.block⟩
theorem Grew.below {B : Nat} {w0 : World} (h : Grew w w' S) (hB : Below B w0 w) (hS : ∀ k, k < w.heap.size → S k → B ≤ k) (hb : B ≤ w.heap.size) : Below B w0 w' :=
  ⟨h.os.trans hB.os, h.tape.trans hB.tape, h.output.trans hB.output, Nat.le_trans hB.size h.size, fun k hk => (h.block k (by omega) (fun hs => by have := hS k (by omega) hs; omega)).trans (hB.block k hk)⟩
theorem Grew.to_grown {r : Option Nat} (h : Grew w w' S) (hs : ∀ k, S k → r = some k) : w.grownBy w' r := ⟨h.os, h.tape, h.output, h.size, fun k hk hn => h.block k hk (fun hS => hn (hs k hS).symm)⟩
theorem Blk.grew {g : Nat} {t : TypeId} {cs : Array Value} (h : Blk w g t cs) (hg : Grew w w' S) (hn : ¬ S g) : Blk w' g t cs := (hg.block g h.lt hn).trans h
theorem own_grew {base n : Nat} {e : TypeId} {size : Nat} {v : Value} {xs : List Value} (h : w.ownsRow base e size v n xs) (hg : Grew w w' S) (hn : ∀ k, v.ownBlock = some k → ¬ S k) : w'.ownsRow base e size v n xs := by
  refine ⟨h.1, h.2.imp id fun ⟨g, cap, cur, hv, hb, hc, r⟩ => ⟨g, cap, cur, hv, hb, ?_, r⟩⟩
  exact (hg.block g (Array.getElem?_eq_some_iff.1 hc).1 (hn g (by rw [hv]; rfl))).trans hc
theorem own_blk_type {base n : Nat} {e : TypeId} {size : Nat} {v : Value} {xs : List Value} (h : w.ownsRow base e size v n xs) {k : Nat} (hk : v.ownBlock = some k) : ∃ cur, Blk w k e cur := by
  rcases h.2 with ⟨hv, _⟩ | ⟨g, cap, cur, hv, _, hc, _⟩
  · rw [hv] at hk; cases hk
  · rw [hv] at hk; simp [Value.ownBlock] at hk; subst hk; exact ⟨cur, hc⟩
theorem Blk.ne_type {g g' : Nat} {t t' : TypeId} {cs cs' : Array Value} (h : Blk w g t cs) (h' : Blk w g' t' cs') (ht : t ≠ t') : g ≠ g' := by
  intro e; subst e
  unfold Blk at h h'
  rw [h] at h'
  injection h' with h'
  injection h' with _ h2
  exact ht h2
theorem own_apart {base n : Nat} {e : TypeId} {size : Nat} {v : Value} {xs : List Value} (h : w.ownsRow base e size v n xs) {g : Nat} {t : TypeId} {cs : Array Value} (hb : Blk w g t cs) (ht : t ≠ e) : v.ownBlock ≠ some g := by
  intro hk
  obtain ⟨cur, hc⟩ := own_blk_type h hk
  exact hb.ne_type hc ht rfl
theorem own_apart2 {base n : Nat} {e : TypeId} {size : Nat} {v : Value} {xs : List Value} (h : w.ownsRow base e size v n xs) {base' n' : Nat} {e' : TypeId} {size' : Nat} {v' : Value} {xs' : List Value} (h' : w.ownsRow base' e' size' v' n' xs') (ht : e ≠ e') {k : Nat} (hk : v.ownBlock = some k) : v'.ownBlock ≠ some k := by
  intro hk'
  obtain ⟨cur, hc⟩ := own_blk_type h hk
  obtain ⟨cur', hc'⟩ := own_blk_type h' hk'
  exact hc.ne_type hc' ht rfl
/-- A row that reads, kept where its block is none of the turned ones. -/
theorem Rd.grew {size n cap : Nat} {a : Option Addr} {cs : List Value} (h : Rd size w a n cap cs) (hg : Grew w w' S) (hn : ∀ q, a = some q → 0 < n → ¬ S q.block) : Rd size w' a n cap cs :=
  ⟨h.1, h.2.1, h.2.2.1, fun h0 => by
    obtain ⟨b, off, ha, hlt, hc⟩ := h.2.2.2 h0
    exact ⟨b, off, ha, Nat.lt_of_lt_of_le hlt hg.size, fun i v hi => (World.cell?_of_block (w := w) (a := ⟨b, off + i, none⟩) (hg.block b hlt (hn _ ha h0))).trans (hc i v hi)⟩⟩
end
theorem own_rw {α : Type} {f : α → List Value} {s : Nat} {w : World} {base c : Nat} {e : TypeId} {A : Option Addr} {L : List α} (h : w.ownsRow base e s (.slice A L.length c) L.length (cellsOf f L)) : Rw f s w A c L := own_rd h
theorem own_at {w : World} {base n c : Nat} {e : TypeId} {size : Nat} {A : Option Addr} {xs : List Value} (h : w.ownsRow base e size (.slice A n c) n xs) (h0 : 0 < n) :
    ∃ b cur, A = some ⟨b, 0, none⟩ ∧ base ≤ b ∧ Blk w b e cur ∧ cur.size = c * size ∧ n ≤ c ∧ c ≤ maxLen ∧ ∀ j, j < n * size → cur[j]? = xs[j]? := by
  obtain ⟨hl, hv⟩ := h
  rcases hv with ⟨hv, h1⟩ | ⟨g, cap, cur, hv, hb, hg, hn, hm, hs, ht⟩
  · omega
  · simp only [Value.slice.injEq] at hv
    obtain ⟨rfl, _, rfl⟩ := hv
    exact ⟨g, cur, rfl, hb, hg, hs, hn, hm, fun j hj => by rw [← ht, List.getElem?_take, if_pos hj]; simp⟩
end Go.Proofs.Ythjefbfhpdbcjaa
