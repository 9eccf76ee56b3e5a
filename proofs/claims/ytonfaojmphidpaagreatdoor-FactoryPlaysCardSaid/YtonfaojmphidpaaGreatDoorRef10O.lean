/- Chapter 10: the document's Open. -/
import Derived.Test.YtonfaojmphidpaaGreatDoorRef10
namespace Go.Proofs.YtonfaojmphidpaaGreatDoor
open Go.RowKit Go.Maps
set_option linter.unusedVariables false
set_option linter.unusedSimpArgs false

/-- A factory of the document's that reads as these. -/
def Rz (w : World) (v : Value) (xs ys : List Bool) (t : Nat) (S : List Int) : Prop := ∃ a1 c1 a2 c2 a3 c3 sh, v = .agg #[.slice a1 xs.length c1, .slice a2 ys.length c2, .slice a3 sh.length c3] ∧ Bs w a1 c1 xs ∧ Bs w a2 c2 ys ∧ Bs w a3 c3 sh ∧ ShOf sh t S
theorem Rz.below {w w' : World} {v : Value} {xs ys : List Bool} {t : Nat} {S : List Int} (h : Rz w v xs ys t S) (hb : RowKit.Below w.heap.size w w') : Rz w' v xs ys t S := by
  obtain ⟨a1, c1, a2, c2, a3, c3, sh, rfl, h1, h2, h3, h4⟩ := h
  exact ⟨a1, c1, a2, c2, a3, c3, sh, rfl, h1.below hb, h2.below hb, h3.below hb, h4⟩
theorem ShOf.snoc {sh : List Bool} {t : Nat} {S : List Int} (h : ShOf sh t S) (hS : ∀ k ∈ S, k ≤ (t : Int)) : ShOf (sh ++ [false]) (t + 1) S := by
  obtain ⟨hl, hg⟩ := h
  refine ⟨by simp [hl], fun k hk => ?_⟩
  by_cases e : k = t
  · subst e
    rw [List.getElem?_append_right (by omega), hl, Nat.sub_self]
    rw [decide_eq_false (fun h => by have := hS _ h; omega)]; rfl
  · rw [List.getElem?_append_left (by omega)]; exact hg k (by omega)

theorem Bs.keep2 {w w' : World} {T : Nat → Prop} {a : Option Addr} {c : Nat} {xs : List Bool} (h : Bs w a c xs) (hg : Grew w w' T) (hT : ∀ k, T k → ∃ t cs, Blk w k t cs ∧ ∀ v ∈ cs, ∀ y, v ≠ .bool y) : Bs w' a c xs :=
  h.grew hg (fun q hq h0 hs => by
    obtain ⟨t, cs, hb, hn⟩ := hT _ hs
    exact h.apart hb hn h0 q hq rfl)
theorem nob3 (x y z : Option Addr) (a b c d e f : Nat) : ∀ v ∈ (#[.slice x a b, .slice y c d, .slice z e f] : Array Value), ∀ q, v ≠ .bool q := by
  intro v hv q e
  subst e
  simp at hv

set_option maxRecDepth 100000 in
set_option maxHeartbeats 2000000 in
theorem ref10_Open_no (v : Value) (xs ys : List Bool) (t : Nat) (S : List Int) (w : World) (h : Rz w v xs ys t S) (hl : xs.length ≤ 1000) (hx : nx xs = false) :
    Calls Tryz.prog 26 #[v] w fun e w' => ∃ v', e = .returned (.tuple #[v', .int .u64 0, .bool false]) ∧ Rz w' v' xs.tail ys t S ∧ RowKit.Below w.heap.size w w' := by
  obtain ⟨a1, c1, a2, c2, a3, c3, sh, rfl, h1, h2, h3, h4⟩ := h
  have hz : (zeroValue 43).run Tryz.prog = (zeroValue 43).run Tryz.prog := rfl
  have ha1 := (RowKit.Below.refl w.heap.size w).alloc (Nat.le_refl _) (.cells #[.slice a1 xs.length c1, .slice a2 ys.length c2, .slice a3 sh.length c3] 43)
  have ha2 := ha1.alloc ha1.size (.cells #[.slice none 0 0, .slice none 0 0, .slice none 0 0] 43)
  have k1 := (Blk.new w 43 #[.slice a1 xs.length c1, .slice a2 ys.length c2, .slice a3 sh.length c3]).of_below ((RowKit.Below.refl _ (w.alloc (.cells #[.slice a1 xs.length c1, .slice a2 ys.length c2, .slice a3 sh.length c3] 43))).alloc (Nat.le_refl _) (.cells #[.slice none 0 0, .slice none 0 0, .slice none 0 0] 43))
  have k2 := Blk.new (w.alloc (.cells #[.slice a1 xs.length c1, .slice a2 ys.length c2, .slice a3 sh.length c3] 43)) 43 #[.slice none 0 0, .slice none 0 0, .slice none 0 0]
  rw [size_alloc] at k2
  have hnext := ref10_next a1 c1 xs _ (h1.below ha2) hl
  have HNEXT := Lib.hid hnext; clear hnext hz
  have HA2 := Lib.hid ha2; clear ha2 ha1
  have HK1 := Lib.hid k1; clear k1
  have HK2 := Lib.hid k2; clear k2
  have H1 := Lib.hid h1; clear h1
  have H2 := Lib.hid h2; clear h2
  have H3 := Lib.hid h3; clear h3
  have H4 := Lib.hid h4; clear h4
  have HX := Lib.hid hx; clear hx
  go_enter Tryz.func26, Tryz.ntmps26
  go_wp2_with fail
  refine HNEXT.out.mono ?_
  rintro e w2 ⟨a', c', rfl, hb', hb2⟩
  rw [HX.out]
  have k1 := HK1.out.of_below hb2
  have k2 := HK2.out.of_below hb2
  have p0 := k1.cell 0
  have p1 := k1.cell 1
  have p2 := k1.cell 2
  have q0 := k2.cell 0
  have q1 := k2.cell 1
  have q2 := k2.cell 2
  have f0 := k1.frozen 0
  have g0 := k2.frozen 0
  have g1 := k2.frozen 1
  have g2 := k2.frozen 2
  have l1 := k1.lt
  have l2 := k2.lt
  simp only [List.getElem?_toArray, List.getElem?_cons_zero, List.getElem?_cons_succ] at p0 p1 p2 q0 q1 q2
  have HB2 := Lib.hid (below_step HA2.out HA2.out.size hb2)
  have HB' := Lib.hid hb'; clear hb'
  have HC2 := Lib.hid hb2; clear hb2
  have T1 := Lib.hid k1; clear k1
  have T2 := Lib.hid k2; clear k2
  generalize hn1 : xs.tail.length = n1 at *
  have HN := Lib.hid hn1; clear hn1
  go_wp2_with fail
  have hgr : Grew w2 ((((w2.setCell ⟨w.heap.size, 0, none⟩ (.slice a' n1 c')).setCell ⟨w.heap.size + 1, 0, none⟩ (.slice a' n1 c')).setCell ⟨w.heap.size + 1, 1, none⟩ (.slice a2 ys.length c2)).setCell ⟨w.heap.size + 1, 2, none⟩ (.slice a3 sh.length c3)) (fun k => k = w.heap.size ∨ k = w.heap.size + 1) :=
    (((Grew.set w2 ⟨w.heap.size, 0, none⟩ _).mono (fun k _ hk => .inl hk)).trans (Grew.set _ ⟨w.heap.size + 1, 0, none⟩ _) (fun k _ hk => .inr hk)).trans ((Grew.set _ ⟨w.heap.size + 1, 1, none⟩ _).trans (Grew.set _ ⟨w.heap.size + 1, 2, none⟩ _) (fun k _ hk => hk)) (fun k _ hk => .inr hk)
  have hT : ∀ k, (k = w.heap.size ∨ k = w.heap.size + 1) → ∃ t cs, Blk w2 k t cs ∧ ∀ v ∈ cs, ∀ y, v ≠ .bool y := fun k hk => by
    rcases hk with rfl | rfl
    · exact ⟨_, _, T1.out, nob3 _ _ _ _ _ _ _ _ _⟩
    · exact ⟨_, _, T2.out, nob3 _ _ _ _ _ _ _ _ _⟩
  have hb2' : RowKit.Below w.heap.size w w2 := HB2.out
  refine bodyPost_ret (v := .tuple #[.agg #[.slice a' n1 c', .slice a2 ys.length c2, .slice a3 sh.length c3], .int .u64 0, .bool false]) (by simp [results, Tryz.results26, go_sem, q0, q1, q2]) rfl ⟨_, rfl, ?_, ?_⟩
  · refine ⟨a', c', a2, c2, a3, c3, sh, by rw [HN.out], HB'.out.keep2 hgr hT, (H2.out.below hb2').keep2 hgr hT, (H3.out.below hb2').keep2 hgr hT, H4.out⟩
  · exact hgr.below hb2' (fun k _ hk => by omega) hb2'.size

set_option maxRecDepth 100000 in
set_option maxHeartbeats 2000000 in
theorem ref10_Open_yes (v : Value) (xs ys : List Bool) (t : Nat) (S : List Int) (w : World) (h : Rz w v xs ys t S) (hl : xs.length ≤ 1000) (hx : nx xs = true) (ht : t ≤ 900) (hS : ∀ k ∈ S, k ≤ (t : Int)) :
    Calls Tryz.prog 26 #[v] w fun e w' => ∃ v', e = .returned (.tuple #[v', .int .u64 ((t : Int) + 1), .bool true]) ∧ Rz w' v' xs.tail ys (t + 1) S ∧ RowKit.Below w.heap.size w w' := by
  obtain ⟨a1, c1, a2, c2, a3, c3, sh, rfl, h1, h2, h3, h4⟩ := h
  have hz : (zeroValue 43).run Tryz.prog = (zeroValue 43).run Tryz.prog := rfl
  have ha1 := (RowKit.Below.refl w.heap.size w).alloc (Nat.le_refl _) (.cells #[.slice a1 xs.length c1, .slice a2 ys.length c2, .slice a3 sh.length c3] 43)
  have ha2 := ha1.alloc ha1.size (.cells #[.slice none 0 0, .slice none 0 0, .slice none 0 0] 43)
  have k1 := (Blk.new w 43 #[.slice a1 xs.length c1, .slice a2 ys.length c2, .slice a3 sh.length c3]).of_below ((RowKit.Below.refl _ (w.alloc (.cells #[.slice a1 xs.length c1, .slice a2 ys.length c2, .slice a3 sh.length c3] 43))).alloc (Nat.le_refl _) (.cells #[.slice none 0 0, .slice none 0 0, .slice none 0 0] 43))
  have k2 := Blk.new (w.alloc (.cells #[.slice a1 xs.length c1, .slice a2 ys.length c2, .slice a3 sh.length c3] 43)) 43 #[.slice none 0 0, .slice none 0 0, .slice none 0 0]
  rw [size_alloc] at k2
  have hnext := ref10_next a1 c1 xs _ (h1.below ha2) hl
  have HNEXT := Lib.hid hnext; clear hnext hz
  have HA2 := Lib.hid ha2; clear ha2 ha1
  have HK1 := Lib.hid k1; clear k1
  have HK2 := Lib.hid k2; clear k2
  have H1 := Lib.hid h1; clear h1
  have H2 := Lib.hid h2; clear h2
  have H3 := Lib.hid h3; clear h3
  have H4 := Lib.hid h4; clear h4
  have HX := Lib.hid hx; clear hx
  go_enter Tryz.func26, Tryz.ntmps26
  go_wp2_with fail
  refine HNEXT.out.mono ?_
  rintro e w2 ⟨a', c', rfl, hb', hb2⟩
  rw [HX.out]
  have k1 := HK1.out.of_below hb2
  have k2 := HK2.out.of_below hb2
  have p0 := k1.cell 0
  have p1 := k1.cell 1
  have p2 := k1.cell 2
  have q0 := k2.cell 0
  have q1 := k2.cell 1
  have q2 := k2.cell 2
  have f0 := k1.frozen 0
  have g0 := k2.frozen 0
  have g1 := k2.frozen 1
  have g2 := k2.frozen 2
  have l1 := k1.lt
  have l2 := k2.lt
  simp only [List.getElem?_toArray, List.getElem?_cons_zero, List.getElem?_cons_succ] at p0 p1 p2 q0 q1 q2
  have HB2 := Lib.hid (below_step HA2.out HA2.out.size hb2)
  have HB' := Lib.hid hb'; clear hb'
  have HC2 := Lib.hid hb2; clear hb2
  have T1 := Lib.hid k1; clear k1
  have T2 := Lib.hid k2; clear k2
  generalize hn1 : xs.tail.length = n1 at *
  have HN := Lib.hid hn1; clear hn1
  have hb2' : RowKit.Below w.heap.size w w2 := HB2.out
  have hset : RowKit.Below w.heap.size w (w2.setCell ⟨w.heap.size, 0, none⟩ (.slice a' n1 c')) := hb2'.setCell (Nat.le_refl _) _
  have hk3 : Blk (w2.setCell ⟨w.heap.size, 0, none⟩ (.slice a' n1 c')) w.heap.size 43 #[.slice a' n1 c', .slice a2 ys.length c2, .slice a3 sh.length c3] := T1.out.put 0 (.slice a' n1 c')
  have hk4 : Blk (w2.setCell ⟨w.heap.size, 0, none⟩ (.slice a' n1 c')) (w.heap.size + 1) 43 #[.slice none 0 0, .slice none 0 0, .slice none 0 0] := T2.out.far (p := ⟨w.heap.size, 0, none⟩) (by dsimp only; omega) _
  have hg3 : Grew w2 (w2.setCell ⟨w.heap.size, 0, none⟩ (.slice a' n1 c')) (fun k => k = w.heap.size) := Grew.set w2 ⟨w.heap.size, 0, none⟩ _
  have hT3 : ∀ k, k = w.heap.size → ∃ t cs, Blk w2 k t cs ∧ ∀ v ∈ cs, ∀ y, v ≠ .bool y := fun k hk => by subst hk; exact ⟨_, _, T1.out, nob3 _ _ _ _ _ _ _ _ _⟩
  have b1 := Lib.hid (HB'.out.keep2 hg3 hT3)
  have b2 := Lib.hid ((H2.out.below hb2').keep2 hg3 hT3)
  have b3 := Lib.hid ((H3.out.below hb2').keep2 hg3 hT3)
  have HSET := Lib.hid hset; clear hset hg3 hT3
  have HK3 := Lib.hid hk3; clear hk3
  have HK4 := Lib.hid hk4; clear hk4
  have hln : sh.length = t := H4.out.1
  have hln2 : sh.length ≤ 900 := by omega
  have HLN := Lib.hid hln; clear hln
  have hsl2 : w2.heap.size ≤ (w2.setCell ⟨w.heap.size, 0, none⟩ (.slice a' n1 c')).heap.size := by rw [size_setCell]; exact Nat.le_refl _
  have HN1 := Lib.hid (World.ownsRow_nil (w2.setCell ⟨w.heap.size, 0, none⟩ (.slice a' n1 c')) w2.heap.size 4 1)
  go_wp2_with (first
    | (at_builtin; refine app_own _ rfl _ _ 22 rfl w2.heap.size 4 (.bool false) 1 1 Tryz.underlying22 Tryz.infoB rfl (by decide) (.slice none 0 0) 0 [] rfl HN1.out a3 sh.length c3 _ rfl b3.out (bools_one _) (by omega) (by omega) hsl2 ?_; intro A4 c4 w4 h2 h3 h4; rw [Nat.zero_add, List.nil_append] at h2; have hs4 := h3.size; have m1 : Blk w4 w.heap.size 43 #[.slice a' n1 c', .slice a2 ys.length c2, .slice a3 sh.length c3] := (h3.block _ HK3.out.lt (by simp [Value.ownBlock])).trans HK3.out; have M1 := Lib.hid m1; have M2 := Lib.hid (show Blk w4 (w.heap.size + 1) 43 #[.slice none 0 0, .slice none 0 0, .slice none 0 0] from (h3.block _ HK4.out.lt (by simp [Value.ownBlock])).trans HK4.out); clear m1; have O4 := Lib.hid h2; clear h2; have G4 := Lib.hid h3; clear h3 h4; have hs4' : w2.heap.size ≤ w4.heap.size := by rw [size_setCell] at hs4; exact hs4)
    | (at_builtin; refine app_one w4 rfl (.tmp 23) (.tmp 24) 22 rfl w2.heap.size 4 (.bool false) 1 1 Tryz.underlying22 Tryz.infoB rfl (by decide) (.slice A4 sh.length c4) sh.length _ rfl O4.out [.bool false] rfl rfl (by simp [Value.oneCell']) (by omega) (by omega) hs4' ?_; intro A5 c5 w5 h5 h6 h7; have O5 := Lib.hid h5; clear h5; have G5 := Lib.hid h6; clear h7; have ne1 : ¬ (some w.heap.size = (Value.slice A4 sh.length c4).ownBlock) := fun e => (by have := own_base O4.out _ e.symm; omega); have ne2 : ¬ (some (w.heap.size + 1) = (Value.slice A4 sh.length c4).ownBlock) := fun e => (by have := own_base O4.out _ e.symm; omega); have r1 : Blk w5 w.heap.size 43 #[.slice a' n1 c', .slice a2 ys.length c2, .slice a3 sh.length c3] := (h6.block _ M1.out.lt ne1).trans M1.out; have r2 : Blk w5 (w.heap.size + 1) 43 #[.slice none 0 0, .slice none 0 0, .slice none 0 0] := (h6.block _ M2.out.lt ne2).trans M2.out; have s0 := r1.cell 0; have s1 := r1.cell 1; have s2 := r1.cell 2; have u0 := r2.cell 0; have u1 := r2.cell 1; have u2 := r2.cell 2; have v2 := r1.frozen 2; have v3 := r2.frozen 0; have v4 := r2.frozen 1; have v5 := r2.frozen 2; have v6 := r1.lt; have v7 := r2.lt; simp only [List.getElem?_toArray, List.getElem?_cons_zero, List.getElem?_cons_succ] at s0 s1 s2 u0 u1 u2; have R1 := Lib.hid r1; have R2 := Lib.hid r2; clear h6 r1 r2 ne1 ne2))
  have hwu : IntKind.u64.wrap ((sh.length : Int) + 1) = (sh.length : Int) + 1 := by rw [IntKind.wrap_u64]; omega
  go_region
  all_goals (
    go_wp2
    have hgr : Grew w5 ((((w5.setCell ⟨w.heap.size, 2, none⟩ (.slice A5 (sh.length + 1) c5)).setCell ⟨w.heap.size + 1, 0, none⟩ (.slice a' n1 c')).setCell ⟨w.heap.size + 1, 1, none⟩ (.slice a2 ys.length c2)).setCell ⟨w.heap.size + 1, 2, none⟩ (.slice A5 (sh.length + 1) c5)).drew (fun k => k = w.heap.size ∨ k = w.heap.size + 1) :=
      ((((Grew.set w5 ⟨w.heap.size, 2, none⟩ _).mono (fun k _ hk => .inl hk)).trans (Grew.set _ ⟨w.heap.size + 1, 0, none⟩ _) (fun k _ hk => .inr hk)).trans ((Grew.set _ ⟨w.heap.size + 1, 1, none⟩ _).trans (Grew.set _ ⟨w.heap.size + 1, 2, none⟩ _) (fun k _ hk => hk)) (fun k _ hk => .inr hk)).drew
    have hT : ∀ k, (k = w.heap.size ∨ k = w.heap.size + 1) → ∃ t cs, Blk w5 k t cs ∧ ∀ v ∈ cs, ∀ y, v ≠ .bool y := fun k hk => by
      rcases hk with rfl | rfl
      · exact ⟨_, _, R1.out, nob3 _ _ _ _ _ _ _ _ _⟩
      · exact ⟨_, _, R2.out, nob3 _ _ _ _ _ _ _ _ _⟩
    have b3w : RowKit.Below (w2.setCell ⟨w.heap.size, 0, none⟩ (.slice a' n1 c')).heap.size (w2.setCell ⟨w.heap.size, 0, none⟩ (.slice a' n1 c')) w5 :=
      ((RowKit.Below.refl _ _).grown G4.out (Nat.le_refl _) (fun z hz => by simp [Value.ownBlock] at hz)).grown G5.out hs4 (fun z hz => by have := own_base O4.out z hz; rw [size_setCell]; exact this)
    have hb5 := below_step HSET.out HSET.out.size b3w
    refine bodyPost_ret (v := .tuple #[.agg #[.slice a' n1 c', .slice a2 ys.length c2, .slice A5 (sh.length + 1) c5], .int .u64 ((sh.length : Int) + 1), .bool true]) (by simp [results, Tryz.results26, go_sem, u0, u1, u2]) rfl ⟨_, by rw [HLN.out], ?_, ?_⟩
    · have e1 : (sh ++ [false]).length = sh.length + 1 := by simp
      refine ⟨a', c', a2, c2, A5, c5, sh ++ [false], by rw [HN.out, e1, HLN.out], (b1.out.below b3w).keep2 hgr hT, (b2.out.below b3w).keep2 hgr hT, Bs.keep2 (w := w5) ?_ hgr hT, H4.out.snoc hS⟩
      unfold Bs
      rw [e1]
      have := own_rd O5.out
      simpa [bools] using this
    · exact hgr.below hb5 (fun k _ hk => by omega) hb5.size)
end Go.Proofs.YtonfaojmphidpaaGreatDoor
