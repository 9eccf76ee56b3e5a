/- CellOne: what the starter knows of the world, and its anchors. -/
import Derived.Test.YtdemidfpoojkdaaCoQb
import Derived.Test.YtdemidfpoojkdaaCoK
import Derived.Test.YtdemidfpoojkdaaCoWa
import Derived.Test.YtdemidfpoojkdaaCoWb
import Derived.Conc.CrowdMono
namespace Go.Proofs.Ytdemidfpoojkdaa.Co
open Go.Conc Go.ConcN Go.RowKit Go.Conc.Lib Go.ConcR.Gen Go.ConcN.Gen
open Go.ConcR (KK WgAt stA smA rd wr mk DC0 ofEvent_cell)
set_option linter.unusedVariables false
set_option linter.unusedSimpArgs false
theorem arr52 (T : Array Value) (h : T.size = 52) : ∃ v0 v1 v2 v3 v4 v5 v6 v7 v8 v9 v10 v11 v12 v13 v14 v15 v16 v17 v18 v19 v20 v21 v22 v23 v24 v25 v26 v27 v28 v29 v30 v31 v32 v33 v34 v35 v36 v37 v38 v39 v40 v41 v42 v43 v44 v45 v46 v47 v48 v49 v50 v51 : Value, T = #[v0, v1, v2, v3, v4, v5, v6, v7, v8, v9, v10, v11, v12, v13, v14, v15, v16, v17, v18, v19, v20, v21, v22, v23, v24, v25, v26, v27, v28, v29, v30, v31, v32, v33, v34, v35, v36, v37, v38, v39, v40, v41, v42, v43, v44, v45, v46, v47, v48, v49, v50, v51] := by
  obtain ⟨l⟩ := T
  simp only [List.size_toArray] at h
  rcases l with _ | ⟨v0, l⟩
  · simp at h
  rcases l with _ | ⟨v1, l⟩
  · simp at h
  rcases l with _ | ⟨v2, l⟩
  · simp at h
  rcases l with _ | ⟨v3, l⟩
  · simp at h
  rcases l with _ | ⟨v4, l⟩
  · simp at h
  rcases l with _ | ⟨v5, l⟩
  · simp at h
  rcases l with _ | ⟨v6, l⟩
  · simp at h
  rcases l with _ | ⟨v7, l⟩
  · simp at h
  rcases l with _ | ⟨v8, l⟩
  · simp at h
  rcases l with _ | ⟨v9, l⟩
  · simp at h
  rcases l with _ | ⟨v10, l⟩
  · simp at h
  rcases l with _ | ⟨v11, l⟩
  · simp at h
  rcases l with _ | ⟨v12, l⟩
  · simp at h
  rcases l with _ | ⟨v13, l⟩
  · simp at h
  rcases l with _ | ⟨v14, l⟩
  · simp at h
  rcases l with _ | ⟨v15, l⟩
  · simp at h
  rcases l with _ | ⟨v16, l⟩
  · simp at h
  rcases l with _ | ⟨v17, l⟩
  · simp at h
  rcases l with _ | ⟨v18, l⟩
  · simp at h
  rcases l with _ | ⟨v19, l⟩
  · simp at h
  rcases l with _ | ⟨v20, l⟩
  · simp at h
  rcases l with _ | ⟨v21, l⟩
  · simp at h
  rcases l with _ | ⟨v22, l⟩
  · simp at h
  rcases l with _ | ⟨v23, l⟩
  · simp at h
  rcases l with _ | ⟨v24, l⟩
  · simp at h
  rcases l with _ | ⟨v25, l⟩
  · simp at h
  rcases l with _ | ⟨v26, l⟩
  · simp at h
  rcases l with _ | ⟨v27, l⟩
  · simp at h
  rcases l with _ | ⟨v28, l⟩
  · simp at h
  rcases l with _ | ⟨v29, l⟩
  · simp at h
  rcases l with _ | ⟨v30, l⟩
  · simp at h
  rcases l with _ | ⟨v31, l⟩
  · simp at h
  rcases l with _ | ⟨v32, l⟩
  · simp at h
  rcases l with _ | ⟨v33, l⟩
  · simp at h
  rcases l with _ | ⟨v34, l⟩
  · simp at h
  rcases l with _ | ⟨v35, l⟩
  · simp at h
  rcases l with _ | ⟨v36, l⟩
  · simp at h
  rcases l with _ | ⟨v37, l⟩
  · simp at h
  rcases l with _ | ⟨v38, l⟩
  · simp at h
  rcases l with _ | ⟨v39, l⟩
  · simp at h
  rcases l with _ | ⟨v40, l⟩
  · simp at h
  rcases l with _ | ⟨v41, l⟩
  · simp at h
  rcases l with _ | ⟨v42, l⟩
  · simp at h
  rcases l with _ | ⟨v43, l⟩
  · simp at h
  rcases l with _ | ⟨v44, l⟩
  · simp at h
  rcases l with _ | ⟨v45, l⟩
  · simp at h
  rcases l with _ | ⟨v46, l⟩
  · simp at h
  rcases l with _ | ⟨v47, l⟩
  · simp at h
  rcases l with _ | ⟨v48, l⟩
  · simp at h
  rcases l with _ | ⟨v49, l⟩
  · simp at h
  rcases l with _ | ⟨v50, l⟩
  · simp at h
  rcases l with _ | ⟨v51, l⟩
  · simp at h
  rcases l with _ | ⟨x, l⟩
  · exact ⟨v0, v1, v2, v3, v4, v5, v6, v7, v8, v9, v10, v11, v12, v13, v14, v15, v16, v17, v18, v19, v20, v21, v22, v23, v24, v25, v26, v27, v28, v29, v30, v31, v32, v33, v34, v35, v36, v37, v38, v39, v40, v41, v42, v43, v44, v45, v46, v47, v48, v49, v50, v51, rfl⟩
  · simp at h

/-- The starter, j workers being started, s blocks of the next one made. -/
structure St (N : Nat) (W : World) (x st : Int) (j s : Nat) (w : World) : Prop where
  below : Below N W w
  own : Own0 N x st w
  size : w.heap.size = N + 7 + 2 * j + s
  c1 : 1 ≤ s → w.cell? ⟨N + 7 + 2 * j, 0, none⟩ = some (.pointer (some ⟨N + 6, 0, none⟩))
  c2 : 2 ≤ s → w.cell? ⟨N + 8 + 2 * j, 0, none⟩ = some (fnv N)
section
variable {N : Nat} {W : World} {x st : Int} {j s n : Nat} {w w₁ : World}
theorem st_rely (w w₁ : World) (r : (env N x st n).RS w w₁) (h : St N W x st j s w) : St N W x st j s w₁ :=
  ⟨⟨r.os.trans h.below.os, r.tape.trans h.below.tape, r.output.trans h.below.output, by rw [r.size]; exact h.below.size, fun k hk => (r.block k (by rw [three_iff]; omega)).trans (h.below.block k hk)⟩,
    h.own.of (n := n) fun b hb ht => r.block b ht, by rw [r.size]; exact h.size,
    fun hs => (cell_of_block (r.block _ (by rw [three_iff]; omega)) 0).trans (h.c1 hs), fun hs => (cell_of_block (r.block _ (by rw [three_iff]; omega)) 0).trans (h.c2 hs)⟩
theorem live_alloc (h : (env N x st n).live w) (hs : N + 7 ≤ w.heap.size) (o : Obj) : (env N x st n).live (w.alloc o) := by
  obtain ⟨⟨a, b, hw⟩, ⟨y, hy⟩, d, hd⟩ := h
  have e : ∀ k, k < N + 7 → (w.alloc o).heap[k]? = w.heap[k]? := fun k hk => Below.heap_alloc _ _ _ (by omega)
  have e1 : (env N x st n).Wg = N + 6 := rfl
  have e2 : (env N x st n).Ce = N + 3 := rfl
  have e3 : (env N x st n).Dn = N + 5 := rfl
  exact ⟨⟨a, b, hw.of_block (e _ (by omega))⟩, ⟨y, (e _ (by omega)).trans hy⟩, d, (e _ (by omega)).trans hd⟩
theorem St.box1 (h : St N W x st j 0 w) (t : TypeId) : St N W x st j 1 (w.alloc (.cells #[.pointer (some ⟨N + 6, 0, none⟩)] t)) := by
  have hs := h.size
  refine ⟨h.below.alloc (by omega) _, h.own.of (n := 0) fun b hb _ => Below.heap_alloc _ _ _ (by omega), by simp [hs], fun _ => ?_, fun h => absurd h (by omega)⟩
  rw [World.cell?_alloc_at _ _ _ _ (by omega)]
  rfl
theorem St.box2 (h : St N W x st j 1 w) (t : TypeId) : St N W x st j 2 (w.alloc (.cells #[fnv N] t)) := by
  have hs := h.size
  refine ⟨h.below.alloc (by omega) _, h.own.of (n := 0) fun b hb _ => Below.heap_alloc _ _ _ (by omega), by simp [hs], fun _ => (cell_of_block (Below.heap_alloc _ _ _ (by omega)) 0).trans (h.c1 (by omega)), fun _ => ?_⟩
  rw [World.cell?_alloc_at _ _ _ _ (by omega)]
  rfl
theorem St.next (h : St N W x st j 2 w) : St N W x st (j + 1) 0 w :=
  ⟨h.below, h.own, by have := h.size; omega, fun h => absurd h (by omega), fun h => absurd h (by omega)⟩
theorem St.kn (h : St N W x st j 2 w) (hl : (env N x st n).live w) : Kn N x st n j w := ⟨h.own, h.c1 (by omega), h.c2 (by omega), hl⟩
theorem low_alloc' (hs : w.heap.size = N + 7 + 2 * j + s) (o : Obj) : ∀ b, b < (env N x st n).Lw j → (w.alloc o).heap[b]? = w.heap[b]? := fun b hb => Below.heap_alloc _ _ _ (by have e : (env N x st n).Lw j = N + 7 + 2 * j := rfl; omega)
theorem ok0_rd (b : Nat) (h : b ≠ N + 6 ∧ b ≠ N + 3 ∧ b ≠ N + 5) : (env N x st n).ok0 j ⟨.cell ⟨b, 0, none⟩, false, false⟩ := ok0_read (by rw [three_iff]; dsimp only; omega)
end
section
variable {E : Env} {A B : Goroutine → World → Prop} {Post : Value → World → Prop}
theorem Sd_mono (h : ∀ g w, A g w → B g w) {g : Goroutine} {w : World} (x : E.Sd A g w) : E.Sd B g w :=
  let ⟨h1, g', h2, m, h3⟩ := x; ⟨h1, g', h2, m, goes_mono h h3⟩
theorem S2_mono (h : ∀ g w, A g w → B g w) {vs : Nat} {g : Goroutine} {w : World} (x : E.S2 A Post vs g w) : E.S2 B Post vs g w :=
  ⟨x.1, fun v hv hw => ⟨(x.2 v hv hw).1, fun e => let ⟨g', h2, m, h3⟩ := (x.2 v hv hw).2 e; ⟨g', h2, m, goes_mono h h3⟩⟩⟩
theorem S1_mono (h : ∀ g w, A g w → B g w) {g : Goroutine} {w : World} (x : E.S1 A Post g w) : E.S1 B Post g w :=
  ⟨x.1, fun v hv hw => let ⟨g', h2, h3, h4⟩ := x.2 v hv hw; ⟨g', h2, h3, fun e => let ⟨m, hm⟩ := h4 e; ⟨m, goes_mono (fun _ _ y => S2_mono h y) hm⟩⟩⟩
end
def Code.ops : Code → Array Oper | .region _ ops _ => ops | _ => #[]
noncomputable def ops10 : Array Oper := Code.ops (Code.fst R3)
noncomputable def tail10 : Code := Code.snd R3
section
variable (N : Nat) (W : World) (x st : Int) (n : Nat)
noncomputable def cW (T : Array Value) : Frame := (base 3).at ⟨T, []⟩ (.inRegion ops10 (0 :: []) :: [.code tail10])
/-- What the frame beneath Wait holds. -/
def Held (T : Array Value) : Prop := T.size = 52 ∧ T[3]? = some (.pointer (some ⟨N, 0, none⟩)) ∧ T[4]? = some (.pointer (some ⟨N + 1, 0, none⟩)) ∧ T[7]? = some (.pointer (some ⟨N + 4, 0, none⟩)) ∧ T[8]? = some (.pointer (some ⟨N + 5, 0, none⟩))
/-- At the head of Wait's loop. -/
def AnW (g : Goroutine) (w : World) : Prop := ∃ T, Held N T ∧ anchE Try.link (env N x st n) (St N W x st n 0) (cW T) [] g w
/-- What is said at the return. -/
def PostE (v : Value) (w : World) : Prop := v = .bool true ∧ Below N W w
abbrev GS (j : Nat) (Stop : Goroutine → World → Prop) (m : Nat) (g : Goroutine) (w : World) : Prop := Goes Try.prog true (env N x st n).RS ((env N x st n).DS j) Stop m g w
abbrev SP (r : Nat) : Goroutine → World → Prop := (env N x st n).spawns ((env N x st n).fin (AnW N W x st n)) r
/-- The next stop, r workers being still to be started. -/
def StopS : Nat → Goroutine → World → Prop
  | 0 => (env N x st n).Sd (AnW N W x st n)
  | r + 1 => (env N x st n).Sdi (n - (r + 1)) (SP N W x st n r)
theorem spawns_iff (r : Nat) (g : Goroutine) (w : World) : SP N W x st n r g w ↔ ∃ m, GS N x st n (n - r) (StopS N W x st n r) m g w := by cases r <;> exact Iff.rfl
end
end Go.Proofs.Ytdemidfpoojkdaa.Co
