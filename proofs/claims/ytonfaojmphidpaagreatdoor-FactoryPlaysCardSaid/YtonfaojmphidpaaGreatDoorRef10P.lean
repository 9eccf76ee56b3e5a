/- Chapter 10: the document's Prove and Close. -/
import Derived.Test.YtonfaojmphidpaaGreatDoorRef10O
namespace Go.Proofs.YtonfaojmphidpaaGreatDoor
open Go.RowKit Go.Maps
set_option linter.unusedVariables false
set_option linter.unusedSimpArgs false

set_option maxRecDepth 100000 in
set_option maxHeartbeats 2000000 in
theorem ref10_Prove_no (v : Value) (xs ys : List Bool) (t : Nat) (S : List Int) (id : Int) (w : World) (h : Rz w v xs ys t S) (ht : t ≤ 900) (hid : In64 id) (hx : knownF t S id 6 ≠ 0) :
    Calls Tryz.prog 24 #[v, .int .u64 id] w fun e w' => ∃ v', e = .returned (.tuple #[v', .bool false, .int .i64 (knownF t S id 6)]) ∧ Rz w' v' xs ys t S ∧ RowKit.Below w.heap.size w w' := by
  obtain ⟨a1, c1, a2, c2, a3, c3, sh, rfl, h1, h2, h3, h4⟩ := h
  have ha1 := (RowKit.Below.refl w.heap.size w).alloc (Nat.le_refl _) (.cells #[.slice a1 xs.length c1, .slice a2 ys.length c2, .slice a3 sh.length c3] 43)
  have ha2 := ha1.alloc ha1.size (.cells #[.slice none 0 0, .slice none 0 0, .slice none 0 0] 43)
  have k1 := (Blk.new w 43 #[.slice a1 xs.length c1, .slice a2 ys.length c2, .slice a3 sh.length c3]).of_below ((RowKit.Below.refl _ (w.alloc (.cells #[.slice a1 xs.length c1, .slice a2 ys.length c2, .slice a3 sh.length c3] 43))).alloc (Nat.le_refl _) (.cells #[.slice none 0 0, .slice none 0 0, .slice none 0 0] 43))
  have k2 := Blk.new (w.alloc (.cells #[.slice a1 xs.length c1, .slice a2 ys.length c2, .slice a3 sh.length c3] 43)) 43 #[.slice none 0 0, .slice none 0 0, .slice none 0 0]
  rw [size_alloc] at k2
  have hkn := ref10_Known a1 xs.length c1 a2 ys.length c2 a3 c3 sh t S id 6 _ (h3.below ha2) h4 (by omega) hid
  generalize hr : knownF t S id 6 = r at *
  have hr0 : (r != 0) = true := by simpa using hx
  have HKN := Lib.hid hkn; clear hkn hr hx
  have HA2 := Lib.hid ha2; clear ha2 ha1
  have HK1 := Lib.hid k1; clear k1
  have HK2 := Lib.hid k2; clear k2
  have H1 := Lib.hid h1; clear h1
  have H2 := Lib.hid h2; clear h2
  have H3 := Lib.hid h3; clear h3
  have H4 := Lib.hid h4; clear h4
  go_enter Tryz.func24, Tryz.ntmps24
  go_wp2_with fail
  refine HKN.out.mono ?_
  rintro e w2 ⟨rfl, hb2⟩
  have k1 := HK1.out.of_below hb2
  have k2 := HK2.out.of_below hb2
  have p0 := k1.cell 0
  have p1 := k1.cell 1
  have p2 := k1.cell 2
  have q0 := k2.cell 0
  have q1 := k2.cell 1
  have q2 := k2.cell 2
  have f0 := k1.frozen 0
  have g0 := k2.frozen 0
  have g1 := k2.frozen 1
  have g2 := k2.frozen 2
  have l1 := k1.lt
  have l2 := k2.lt
  simp only [List.getElem?_toArray, List.getElem?_cons_zero, List.getElem?_cons_succ] at p0 p1 p2 q0 q1 q2
  have HB2 := Lib.hid (below_step HA2.out HA2.out.size hb2)
  have T1 := Lib.hid k1; clear k1
  have T2 := Lib.hid k2; clear k2 hb2
  go_wp2_with fail
  have hgr : Grew w2 (((w2.setCell ⟨w.heap.size + 1, 0, none⟩ (.slice a1 xs.length c1)).setCell ⟨w.heap.size + 1, 1, none⟩ (.slice a2 ys.length c2)).setCell ⟨w.heap.size + 1, 2, none⟩ (.slice a3 sh.length c3)) (fun k => k = w.heap.size + 1) :=
    ((Grew.set _ ⟨w.heap.size + 1, 0, none⟩ _).trans (Grew.set _ ⟨w.heap.size + 1, 1, none⟩ _) (fun k _ hk => hk)).trans (Grew.set _ ⟨w.heap.size + 1, 2, none⟩ _) (fun k _ hk => hk)
  have hT : ∀ k, (k = w.heap.size + 1) → ∃ t cs, Blk w2 k t cs ∧ ∀ v ∈ cs, ∀ y, v ≠ .bool y := fun k hk => by
    subst hk; exact ⟨_, _, T2.out, nob3 _ _ _ _ _ _ _ _ _⟩
  have hb2' : RowKit.Below w.heap.size w w2 := HB2.out
  refine bodyPost_ret (v := .tuple #[.agg #[.slice a1 xs.length c1, .slice a2 ys.length c2, .slice a3 sh.length c3], .bool false, .int .i64 r]) (by simp [results, Tryz.results24, go_sem, q0, q1, q2]) rfl ⟨_, rfl, ?_, ?_⟩
  · exact ⟨a1, c1, a2, c2, a3, c3, sh, rfl, (H1.out.below hb2').keep2 hgr hT, (H2.out.below hb2').keep2 hgr hT, (H3.out.below hb2').keep2 hgr hT, H4.out⟩
  · exact hgr.below hb2' (fun k _ hk => by omega) hb2'.size

set_option maxRecDepth 100000 in
set_option maxHeartbeats 2000000 in
theorem ref10_Close_no (v : Value) (xs ys : List Bool) (t : Nat) (S : List Int) (id : Int) (w : World) (h : Rz w v xs ys t S) (ht : t ≤ 900) (hid : In64 id) (hx : knownF t S id 10 ≠ 0) :
    Calls Tryz.prog 25 #[v, .int .u64 id] w fun e w' => ∃ v', e = .returned (.tuple #[v', .int .i64 (knownF t S id 10)]) ∧ Rz w' v' xs ys t S ∧ RowKit.Below w.heap.size w w' := by
  obtain ⟨a1, c1, a2, c2, a3, c3, sh, rfl, h1, h2, h3, h4⟩ := h
  have ha1 := (RowKit.Below.refl w.heap.size w).alloc (Nat.le_refl _) (.cells #[.slice a1 xs.length c1, .slice a2 ys.length c2, .slice a3 sh.length c3] 43)
  have ha2 := ha1.alloc ha1.size (.cells #[.slice none 0 0, .slice none 0 0, .slice none 0 0] 43)
  have k1 := (Blk.new w 43 #[.slice a1 xs.length c1, .slice a2 ys.length c2, .slice a3 sh.length c3]).of_below ((RowKit.Below.refl _ (w.alloc (.cells #[.slice a1 xs.length c1, .slice a2 ys.length c2, .slice a3 sh.length c3] 43))).alloc (Nat.le_refl _) (.cells #[.slice none 0 0, .slice none 0 0, .slice none 0 0] 43))
  have k2 := Blk.new (w.alloc (.cells #[.slice a1 xs.length c1, .slice a2 ys.length c2, .slice a3 sh.length c3] 43)) 43 #[.slice none 0 0, .slice none 0 0, .slice none 0 0]
  rw [size_alloc] at k2
  have hkn := ref10_Known a1 xs.length c1 a2 ys.length c2 a3 c3 sh t S id 10 _ (h3.below ha2) h4 (by omega) hid
  generalize hr : knownF t S id 10 = r at *
  have hr0 : (r != 0) = true := by simpa using hx
  have HKN := Lib.hid hkn; clear hkn hr hx
  have HA2 := Lib.hid ha2; clear ha2 ha1
  have HK1 := Lib.hid k1; clear k1
  have HK2 := Lib.hid k2; clear k2
  have H1 := Lib.hid h1; clear h1
  have H2 := Lib.hid h2; clear h2
  have H3 := Lib.hid h3; clear h3
  have H4 := Lib.hid h4; clear h4
  go_enter Tryz.func25, Tryz.ntmps25
  go_wp2_with fail
  refine HKN.out.mono ?_
  rintro e w2 ⟨rfl, hb2⟩
  have k1 := HK1.out.of_below hb2
  have k2 := HK2.out.of_below hb2
  have p0 := k1.cell 0
  have p1 := k1.cell 1
  have p2 := k1.cell 2
  have q0 := k2.cell 0
  have q1 := k2.cell 1
  have q2 := k2.cell 2
  have f0 := k1.frozen 0
  have g0 := k2.frozen 0
  have g1 := k2.frozen 1
  have g2 := k2.frozen 2
  have l1 := k1.lt
  have l2 := k2.lt
  simp only [List.getElem?_toArray, List.getElem?_cons_zero, List.getElem?_cons_succ] at p0 p1 p2 q0 q1 q2
  have HB2 := Lib.hid (below_step HA2.out HA2.out.size hb2)
  have T1 := Lib.hid k1; clear k1
  have T2 := Lib.hid k2; clear k2 hb2
  go_wp2_with fail
  have hgr : Grew w2 (((w2.setCell ⟨w.heap.size + 1, 0, none⟩ (.slice a1 xs.length c1)).setCell ⟨w.heap.size + 1, 1, none⟩ (.slice a2 ys.length c2)).setCell ⟨w.heap.size + 1, 2, none⟩ (.slice a3 sh.length c3)) (fun k => k = w.heap.size + 1) :=
    ((Grew.set _ ⟨w.heap.size + 1, 0, none⟩ _).trans (Grew.set _ ⟨w.heap.size + 1, 1, none⟩ _) (fun k _ hk => hk)).trans (Grew.set _ ⟨w.heap.size + 1, 2, none⟩ _) (fun k _ hk => hk)
  have hT : ∀ k, (k = w.heap.size + 1) → ∃ t cs, Blk w2 k t cs ∧ ∀ v ∈ cs, ∀ y, v ≠ .bool y := fun k hk => by
    subst hk; exact ⟨_, _, T2.out, nob3 _ _ _ _ _ _ _ _ _⟩
  have hb2' : RowKit.Below w.heap.size w w2 := HB2.out
  refine bodyPost_ret (v := .tuple #[.agg #[.slice a1 xs.length c1, .slice a2 ys.length c2, .slice a3 sh.length c3], .int .i64 r]) (by simp [results, Tryz.results25, go_sem, q0, q1, q2]) rfl ⟨_, rfl, ?_, ?_⟩
  · exact ⟨a1, c1, a2, c2, a3, c3, sh, rfl, (H1.out.below hb2').keep2 hgr hT, (H2.out.below hb2').keep2 hgr hT, (H3.out.below hb2').keep2 hgr hT, H4.out⟩
  · exact hgr.below hb2' (fun k _ hk => by omega) hb2'.size
end Go.Proofs.YtonfaojmphidpaaGreatDoor
