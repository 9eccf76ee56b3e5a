/- Chapter 10: the document's Prove and Close, where it is open. -/
import Derived.Test.YtonfaojmphidpaaGreatDoorRef10P
namespace Go.Proofs.YtonfaojmphidpaaGreatDoor
open Go.RowKit Go.Maps
set_option linter.unusedVariables false
set_option linter.unusedSimpArgs false

theorem own_setB {w : World} {base n c : Nat} {e : TypeId} {size : Nat} {b : Nat} {xs : List Value} (h : w.ownsRow base e size (.slice (some ⟨b, 0, none⟩) n c) n xs) (i : Nat) (hi : i < n * size) (u : Value) : (w.setCell ⟨b, i, none⟩ u).ownsRow base e size (.slice (some ⟨b, 0, none⟩) n c) n (xs.set i u) := by
  obtain ⟨hl, hv⟩ := h
  rcases hv with ⟨hv, _⟩ | ⟨g, cap, cur, hv, hb, hg, hn, hm, hs, ht⟩
  · cases hv
  · simp only [Value.slice.injEq, Option.some.injEq, Addr.mk.injEq, true_and, and_true] at hv
    obtain ⟨rfl, rfl⟩ := hv
    refine ⟨by rw [List.length_set]; exact hl, .inr ⟨b, c, cur.setIfInBounds i u, rfl, hb, (show Blk w b e cur from hg).put i u, hn, hm, by simpa using hs, ?_⟩⟩
    rw [← ht, Array.toList_setIfInBounds, List.take_set]
theorem known0 {t : Nat} {S : List Int} {id cl : Int} (h : knownF t S id cl = 0) (hc : cl ≠ 0) : 1 ≤ id ∧ id ≤ (t : Int) := by
  unfold knownF at h
  by_cases h1 : id < 1 ∨ (t : Int) < id
  · rw [if_pos h1] at h; simp at h
  · omega
theorem ShOf.shut {sh : List Bool} {t : Nat} {S : List Int} (h : ShOf sh t S) {j : Nat} (hj : j < t) : ShOf (sh.set j true) t (S ++ [(j : Int) + 1]) := by
  obtain ⟨hl, hg⟩ := h
  refine ⟨by rw [List.length_set]; exact hl, fun k hk => ?_⟩
  by_cases e : k = j
  · subst e
    rw [List.getElem?_set_self (by omega)]
    simp
  · rw [List.getElem?_set_ne (by omega), hg k hk]
    congr 1
    rw [Bool.eq_iff_iff]
    simp only [decide_eq_true_eq, List.mem_append, List.mem_singleton]
    constructor
    · exact .inl
    · rintro (h | h)
      · exact h
      · omega

set_option maxRecDepth 100000 in
set_option maxHeartbeats 2000000 in
theorem ref10_Prove_yes (v : Value) (xs ys : List Bool) (t : Nat) (S : List Int) (id : Int) (w : World) (h : Rz w v xs ys t S) (ht : t ≤ 900) (hid : In64 id) (hl : ys.length ≤ 1000) (hx : knownF t S id 6 = 0) :
    Calls Tryz.prog 24 #[v, .int .u64 id] w fun e w' => ∃ v', e = .returned (.tuple #[v', .bool (nx ys), .int .i64 0]) ∧ Rz w' v' xs ys.tail t S ∧ RowKit.Below w.heap.size w w' := by
  obtain ⟨a1, c1, a2, c2, a3, c3, sh, rfl, h1, h2, h3, h4⟩ := h
  have ha1 := (RowKit.Below.refl w.heap.size w).alloc (Nat.le_refl _) (.cells #[.slice a1 xs.length c1, .slice a2 ys.length c2, .slice a3 sh.length c3] 43)
  have ha2 := ha1.alloc ha1.size (.cells #[.slice none 0 0, .slice none 0 0, .slice none 0 0] 43)
  have k1 := (Blk.new w 43 #[.slice a1 xs.length c1, .slice a2 ys.length c2, .slice a3 sh.length c3]).of_below ((RowKit.Below.refl _ (w.alloc (.cells #[.slice a1 xs.length c1, .slice a2 ys.length c2, .slice a3 sh.length c3] 43))).alloc (Nat.le_refl _) (.cells #[.slice none 0 0, .slice none 0 0, .slice none 0 0] 43))
  have k2 := Blk.new (w.alloc (.cells #[.slice a1 xs.length c1, .slice a2 ys.length c2, .slice a3 sh.length c3] 43)) 43 #[.slice none 0 0, .slice none 0 0, .slice none 0 0]
  rw [size_alloc] at k2
  have hkn := ref10_Known a1 xs.length c1 a2 ys.length c2 a3 c3 sh t S id 6 _ (h3.below ha2) h4 (by omega) hid
  rw [hx] at hkn
  have HKN := Lib.hid hkn; clear hkn hx
  have HA2 := Lib.hid ha2; clear ha2 ha1
  have HK1 := Lib.hid k1; clear k1
  have HK2 := Lib.hid k2; clear k2
  have H1 := Lib.hid h1; clear h1
  have H2 := Lib.hid h2; clear h2
  have H3 := Lib.hid h3; clear h3
  have H4 := Lib.hid h4; clear h4
  go_enter Tryz.func24, Tryz.ntmps24
  go_wp2_with fail
  refine HKN.out.mono ?_
  rintro e w2 ⟨rfl, hb2⟩
  have k1 := HK1.out.of_below hb2
  have k2 := HK2.out.of_below hb2
  have p0 := k1.cell 0
  have p1 := k1.cell 1
  have p2 := k1.cell 2
  have q0 := k2.cell 0
  have q1 := k2.cell 1
  have q2 := k2.cell 2
  have f0 := k1.frozen 0
  have g0 := k2.frozen 0
  have g1 := k2.frozen 1
  have g2 := k2.frozen 2
  have l1 := k1.lt
  have l2 := k2.lt
  simp only [List.getElem?_toArray, List.getElem?_cons_zero, List.getElem?_cons_succ] at p0 p1 p2 q0 q1 q2
  have HB2 := Lib.hid (below_step HA2.out HA2.out.size hb2)
  have T1 := Lib.hid k1; clear k1
  have T2 := Lib.hid k2; clear k2 hb2
  have hnext := ref10_next a2 c2 ys w2 (H2.out.below HB2.out) hl
  have HNEXT := Lib.hid hnext; clear hnext
  go_wp2_with fail
  refine HNEXT.out.mono ?_
  rintro e w3 ⟨a', c', rfl, hb', hb3⟩
  clear p0 p1 p2 q0 q1 q2 f0 g0 g1 g2 l1 l2
  have k1 := T1.out.of_below hb3
  have k2 := T2.out.of_below hb3
  have p0 := k1.cell 0
  have p1 := k1.cell 1
  have p2 := k1.cell 2
  have q0 := k2.cell 0
  have q1 := k2.cell 1
  have q2 := k2.cell 2
  have f1 := k1.frozen 1
  have g0 := k2.frozen 0
  have g1 := k2.frozen 1
  have g2 := k2.frozen 2
  have l1 := k1.lt
  have l2 := k2.lt
  simp only [List.getElem?_toArray, List.getElem?_cons_zero, List.getElem?_cons_succ] at p0 p1 p2 q0 q1 q2
  have HB3 := Lib.hid (below_step HB2.out HB2.out.size hb3)
  have HB' := Lib.hid hb'; clear hb' hb3
  have U1 := Lib.hid k1; clear k1
  have U2 := Lib.hid k2; clear k2
  generalize hn1 : ys.tail.length = n1 at *
  have HN := Lib.hid hn1; clear hn1
  go_wp2_with fail
  have hgr : Grew w3 ((((w3.setCell ⟨w.heap.size, 1, none⟩ (.slice a' n1 c')).setCell ⟨w.heap.size + 1, 0, none⟩ (.slice a1 xs.length c1)).setCell ⟨w.heap.size + 1, 1, none⟩ (.slice a' n1 c')).setCell ⟨w.heap.size + 1, 2, none⟩ (.slice a3 sh.length c3)) (fun k => k = w.heap.size ∨ k = w.heap.size + 1) :=
    (((Grew.set w3 ⟨w.heap.size, 1, none⟩ _).mono (fun k _ hk => .inl hk)).trans (Grew.set _ ⟨w.heap.size + 1, 0, none⟩ _) (fun k _ hk => .inr hk)).trans ((Grew.set _ ⟨w.heap.size + 1, 1, none⟩ _).trans (Grew.set _ ⟨w.heap.size + 1, 2, none⟩ _) (fun k _ hk => hk)) (fun k _ hk => .inr hk)
  have hT : ∀ k, (k = w.heap.size ∨ k = w.heap.size + 1) → ∃ t cs, Blk w3 k t cs ∧ ∀ v ∈ cs, ∀ y, v ≠ .bool y := fun k hk => by
    rcases hk with rfl | rfl
    · exact ⟨_, _, U1.out, nob3 _ _ _ _ _ _ _ _ _⟩
    · exact ⟨_, _, U2.out, nob3 _ _ _ _ _ _ _ _ _⟩
  have hb3' : RowKit.Below w.heap.size w w3 := HB3.out
  refine bodyPost_ret (v := .tuple #[.agg #[.slice a1 xs.length c1, .slice a' n1 c', .slice a3 sh.length c3], .bool (nx ys), .int .i64 0]) (by simp [results, Tryz.results24, go_sem, q0, q1, q2]) rfl ⟨_, rfl, ?_, ?_⟩
  · refine ⟨a1, c1, a', c', a3, c3, sh, by rw [HN.out], (H1.out.below hb3').keep2 hgr hT, HB'.out.keep2 hgr hT, (H3.out.below hb3').keep2 hgr hT, H4.out⟩
  · exact hgr.below hb3' (fun k _ hk => by omega) hb3'.size

set_option maxRecDepth 100000 in
set_option maxHeartbeats 2000000 in
theorem ref10_Close_yes (v : Value) (xs ys : List Bool) (t : Nat) (S : List Int) (id : Int) (w : World) (h : Rz w v xs ys t S) (ht : t ≤ 900) (hid : In64 id) (hx : knownF t S id 10 = 0) :
    Calls Tryz.prog 25 #[v, .int .u64 id] w fun e w' => ∃ v', e = .returned (.tuple #[v', .int .i64 0]) ∧ Rz w' v' xs ys t (S ++ [id]) ∧ RowKit.Below w.heap.size w w' := by
  obtain ⟨a1, c1, a2, c2, a3, c3, sh, rfl, h1, h2, h3, h4⟩ := h
  have ha1 := (RowKit.Below.refl w.heap.size w).alloc (Nat.le_refl _) (.cells #[.slice a1 xs.length c1, .slice a2 ys.length c2, .slice a3 sh.length c3] 43)
  have ha2 := ha1.alloc ha1.size (.cells #[.slice none 0 0, .slice none 0 0, .slice none 0 0] 43)
  have k1 := (Blk.new w 43 #[.slice a1 xs.length c1, .slice a2 ys.length c2, .slice a3 sh.length c3]).of_below ((RowKit.Below.refl _ (w.alloc (.cells #[.slice a1 xs.length c1, .slice a2 ys.length c2, .slice a3 sh.length c3] 43))).alloc (Nat.le_refl _) (.cells #[.slice none 0 0, .slice none 0 0, .slice none 0 0] 43))
  have k2 := Blk.new (w.alloc (.cells #[.slice a1 xs.length c1, .slice a2 ys.length c2, .slice a3 sh.length c3] 43)) 43 #[.slice none 0 0, .slice none 0 0, .slice none 0 0]
  rw [size_alloc] at k2
  have hkn := ref10_Known a1 xs.length c1 a2 ys.length c2 a3 c3 sh t S id 10 _ (h3.below ha2) h4 (by omega) hid
  rw [hx] at hkn
  obtain ⟨hi1, hit⟩ := known0 hx (by decide)
  obtain ⟨j, hj⟩ : ∃ j : Nat, id = (j : Int) + 1 := ⟨(id - 1).toNat, by omega⟩
  subst hj
  have hjt : j < t := by omega
  have hln : sh.length = t := h4.1
  have hjl : j < sh.length := by omega
  have hsl : sh.length ≤ 900 := by omega
  have HLN := Lib.hid hln; clear hln
  have HKN := Lib.hid hkn; clear hkn hx
  have HA2 := Lib.hid ha2; clear ha2 ha1
  have HK1 := Lib.hid k1; clear k1
  have HK2 := Lib.hid k2; clear k2
  have H1 := Lib.hid h1; clear h1
  have H2 := Lib.hid h2; clear h2
  have H3 := Lib.hid h3; clear h3
  have H4 := Lib.hid h4; clear h4
  go_enter Tryz.func25, Tryz.ntmps25
  go_wp2_with fail
  refine HKN.out.mono ?_
  rintro e w2 ⟨rfl, hb2⟩
  have k1 := HK1.out.of_below hb2
  have k2 := HK2.out.of_below hb2
  have p0 := k1.cell 0
  have p1 := k1.cell 1
  have p2 := k1.cell 2
  have q0 := k2.cell 0
  have q1 := k2.cell 1
  have q2 := k2.cell 2
  have f0 := k1.frozen 0
  have g0 := k2.frozen 0
  have g1 := k2.frozen 1
  have g2 := k2.frozen 2
  have l1 := k1.lt
  have l2 := k2.lt
  simp only [List.getElem?_toArray, List.getElem?_cons_zero, List.getElem?_cons_succ] at p0 p1 p2 q0 q1 q2
  have HB2 := Lib.hid (below_step HA2.out HA2.out.size hb2)
  have T1 := Lib.hid k1; clear k1
  have T2 := Lib.hid k2; clear k2 hb2
  have B3 := Lib.hid (H3.out.below HB2.out)
  have HN1 := Lib.hid (World.ownsRow_nil w2 w2.heap.size 4 1)
  have hw2 : IntKind.u64.wrap (j : Int) = (j : Int) := by rw [IntKind.wrap_u64]; omega
  clear hid hi1 hit
  go_wp2_with (at_builtin; refine app_own _ rfl _ _ 22 rfl w2.heap.size 4 (.bool false) 1 1 Tryz.underlying22 Tryz.infoB rfl (by decide) (.slice none 0 0) 0 [] rfl HN1.out a3 sh.length c3 _ rfl B3.out (bools_one _) (by omega) (by omega) (Nat.le_refl _) ?_; intro A4 c4 w4 h2 h3 h4; rw [Nat.zero_add, List.nil_append] at h2; have hs4 := h3.size; obtain ⟨b4, cur4, rfl, hb4B, hk4, -, -, -, hcu4⟩ := own_at h2 (by omega); have z0 := hk4.frozen j; have z1 := hk4.lt; have z2 : w4.cell? ⟨b4, j, none⟩ = some (.bool (sh.getD j false)) := (by rw [hk4.cell, hcu4 _ (by omega)]; simp [bools, List.getD_eq_getElem?_getD, hjl]); have m1 : Blk w4 w.heap.size 43 #[.slice a1 xs.length c1, .slice a2 ys.length c2, .slice a3 sh.length c3] := (h3.block _ T1.out.lt (by simp [Value.ownBlock])).trans T1.out; have m2 : Blk w4 (w.heap.size + 1) 43 #[.slice none 0 0, .slice none 0 0, .slice none 0 0] := (h3.block _ T2.out.lt (by simp [Value.ownBlock])).trans T2.out; have s0 := m1.cell 0; have s1 := m1.cell 1; have s2 := m1.cell 2; have u0 := m2.cell 0; have u1 := m2.cell 1; have u2 := m2.cell 2; have v2 := m1.frozen 2; have v3 := m2.frozen 0; have v4 := m2.frozen 1; have v5 := m2.frozen 2; have v6 := m1.lt; have v7 := m2.lt; simp only [List.getElem?_toArray, List.getElem?_cons_zero, List.getElem?_cons_succ] at s0 s1 s2 u0 u1 u2; have y1 : b4 ≠ w.heap.size := (by omega); have y2 : b4 ≠ w.heap.size + 1 := (by omega); have y3 : w.heap.size ≠ b4 := (by omega); have y4 : w.heap.size + 1 ≠ b4 := (by omega); have M1 := Lib.hid m1; have M2 := Lib.hid m2; clear m1 m2; have O4 := Lib.hid h2; clear h2; have G4 := Lib.hid h3; clear h3 h4 hk4 hcu4)
  have b4w : RowKit.Below w2.heap.size w2 w4 := (RowKit.Below.refl _ _).grown G4.out (Nat.le_refl _) (fun z hz => by simp [Value.ownBlock] at hz)
  have hb4 := below_step HB2.out HB2.out.size b4w
  have hset := own_setB O4.out j (by omega) (.bool true)
  have hbs : (bools sh).set j (.bool true) = bools (sh.set j true) := by simp [bools, List.map_set]
  rw [hbs] at hset
  have hgr : Grew (w4.setCell ⟨b4, j, none⟩ (.bool true)) (((((w4.setCell ⟨b4, j, none⟩ (.bool true)).setCell ⟨w.heap.size, 2, none⟩ (.slice (some ⟨b4, 0, none⟩) sh.length c4)).setCell ⟨w.heap.size + 1, 0, none⟩ (.slice a1 xs.length c1)).setCell ⟨w.heap.size + 1, 1, none⟩ (.slice a2 ys.length c2)).setCell ⟨w.heap.size + 1, 2, none⟩ (.slice (some ⟨b4, 0, none⟩) sh.length c4)) (fun k => k = w.heap.size ∨ k = w.heap.size + 1) :=
    (((Grew.set _ ⟨w.heap.size, 2, none⟩ _).mono (fun k _ hk => .inl hk)).trans (Grew.set _ ⟨w.heap.size + 1, 0, none⟩ _) (fun k _ hk => .inr hk)).trans ((Grew.set _ ⟨w.heap.size + 1, 1, none⟩ _).trans (Grew.set _ ⟨w.heap.size + 1, 2, none⟩ _) (fun k _ hk => hk)) (fun k _ hk => .inr hk)
  have hT : ∀ k, (k = w.heap.size ∨ k = w.heap.size + 1) → ∃ t cs, Blk (w4.setCell ⟨b4, j, none⟩ (.bool true)) k t cs ∧ ∀ v ∈ cs, ∀ y, v ≠ .bool y := fun k hk => by
    rcases hk with rfl | rfl
    · exact ⟨_, _, M1.out.far (p := ⟨b4, j, none⟩) y3 _, nob3 _ _ _ _ _ _ _ _ _⟩
    · exact ⟨_, _, M2.out.far (p := ⟨b4, j, none⟩) y4 _, nob3 _ _ _ _ _ _ _ _ _⟩
  have hb5 : RowKit.Below w.heap.size w (w4.setCell ⟨b4, j, none⟩ (.bool true)) := hb4.setCell (p := ⟨b4, j, none⟩) (by have := HB2.out.size; dsimp only; omega) _
  have b5w : RowKit.Below w2.heap.size w2 (w4.setCell ⟨b4, j, none⟩ (.bool true)) := b4w.setCell (p := ⟨b4, j, none⟩) hb4B _
  refine bodyPost_ret (v := .tuple #[.agg #[.slice a1 xs.length c1, .slice a2 ys.length c2, .slice (some ⟨b4, 0, none⟩) sh.length c4], .int .i64 0]) (by simp [results, Tryz.results25, go_sem, u0, u1, u2, y1, y2, y3, y4]) rfl ⟨_, rfl, ?_, ?_⟩
  · refine ⟨a1, c1, a2, c2, some ⟨b4, 0, none⟩, c4, sh.set j true, by rw [List.length_set], ((H1.out.below HB2.out).below b5w).keep2 hgr hT, ((H2.out.below HB2.out).below b5w).keep2 hgr hT, Bs.keep2 (w := w4.setCell ⟨b4, j, none⟩ (.bool true)) ?_ hgr hT, H4.out.shut hjt⟩
    unfold Bs
    rw [List.length_set]
    exact own_rd hset
  · exact hgr.below hb5 (fun k _ hk => by omega) hb5.size
end Go.Proofs.YtonfaojmphidpaaGreatDoor
