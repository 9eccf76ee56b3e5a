/- Chapter 9: the document's Pending. -/
import Derived.Test.YtonfaojmphidpaaGreatDoorHisR
import Derived.Test.YtonfaojmphidpaaGreatDoorLocB
namespace Go.Proofs.YtonfaojmphidpaaGreatDoor
open Go.RowKit
set_option linter.unusedVariables false
set_option linter.unusedSimpArgs false

set_option maxRecDepth 100000 in
set_option maxHeartbeats 8000000 in
theorem ref09_Pending (a : Option Addr) (cap : Nat) (L : List Ev) (w : World) (h : Rw Ev.cells 6 w a cap L) (hl : L.length ≤ 1000) :
    Calls Tryz.prog 71 #[.slice a L.length cap] w fun e w' => ∃ a' c', e = .returned (.slice a' (pendF L L []).length c') ∧ Sl .i64 w' a' c' (pendF L L []) ∧ RowKit.Below w.heap.size w w' := by
  have HH := Lib.hid h; clear h
  go_enter Tryz.func71, Tryz.ntmps71
  go_wp2
  go_loopg [3, 10] L.length (fun gg v i wr => ∃ (kk : Nat) (A : Option Addr) (c : Nat) (O : List Int), kk ≤ L.length ∧ gg = L.length - kk ∧ i = .int .i64 kk ∧ v = .slice A O.length c ∧ O.length ≤ kk ∧ (O = [] → A = none ∧ c = 0) ∧ Hid (pendF L (L.take kk) [] = O) ∧ Hid (wr.ownsRow w.heap.size 3 1 (.slice A O.length c) O.length (nums .i64 O)) ∧ Hid (RowKit.Below w.heap.size w wr))
  case atStart => exact ⟨0, none, 0, [], Nat.zero_le _, rfl, rfl, rfl, Nat.le_refl _, fun _ => ⟨rfl, rfl⟩, rfl, World.ownsRow_nil _ _ _ _, Below.refl _ w⟩
  case round =>
    obtain ⟨kk, A, c, O, hkk, rfl, rfl, rfl, hOk, hO0, HP, HO, BW⟩ := hrel
    by_cases hlt : kk < L.length
    · obtain ⟨b, off, rfl, hb, hc⟩ := HH.out.at_ Ev.cells_length (by omega)
      obtain ⟨y, hy⟩ : ∃ y, L[kk]? = some y := ⟨_, List.getElem?_eq_getElem hlt⟩
      obtain ⟨y0, t, y2, y3, y4, y5⟩ := y
      have c0 : wr.cell? ⟨b, off + kk * 6, none⟩ = some (.int .u64 y0) := (BW.out.cell (p := ⟨b, off + kk * 6, none⟩) hb).trans (hc kk _ hy 0 _ rfl)
      have c1 : wr.cell? ⟨b, off + kk * 6 + 1, none⟩ = some (.int .i64 t) := (BW.out.cell (p := ⟨b, off + kk * 6 + 1, none⟩) hb).trans (hc kk _ hy 1 _ rfl)
      have c2 : wr.cell? ⟨b, off + kk * 6 + 2, none⟩ = some (.int .i64 y2) := (BW.out.cell (p := ⟨b, off + kk * 6 + 2, none⟩) hb).trans (hc kk _ hy 2 _ rfl)
      have c3 : wr.cell? ⟨b, off + kk * 6 + 3, none⟩ = some (.int .i64 y3) := (BW.out.cell (p := ⟨b, off + kk * 6 + 3, none⟩) hb).trans (hc kk _ hy 3 _ rfl)
      have c4 : wr.cell? ⟨b, off + kk * 6 + 4, none⟩ = some (.int .u64 y4) := (BW.out.cell (p := ⟨b, off + kk * 6 + 4, none⟩) hb).trans (hc kk _ hy 4 _ rfl)
      have c5 : wr.cell? ⟨b, off + kk * 6 + 5, none⟩ = some (.int .i64 y5) := (BW.out.cell (p := ⟨b, off + kk * 6 + 5, none⟩) hb).trans (hc kk _ hy 5 _ rfl)
      clear hc
      have hnx : pendF L (L.take (kk + 1)) [] = (if cntL L t ≤ 0 then O else insU O t) := by rw [take_snoc2 hy, pendF_snoc, HP.out]
      have HNX := Lib.hid hnx; clear hnx hy
      have HKA := Lib.hid (Blk.new wr 118 #[.int .u64 y0, .int .i64 t, .int .i64 y2, .int .i64 y3, .int .u64 y4, .int .i64 y5])
      have hal := (RowKit.Below.refl wr.heap.size wr).alloc (Nat.le_refl _) (.cells #[.int .u64 y0, .int .i64 t, .int .i64 y2, .int .i64 y3, .int .u64 y4, .int .i64 y5] 118)
      have HOA := Lib.hid (own_below HO.out hal)
      have hba := below_step BW.out BW.out.size hal
      have hop := ref09_open (some ⟨b, off, none⟩) cap L t _ (HH.out.below hba) hl
      have HOP := Lib.hid hop; clear hop
      have HBA := Lib.hid hba; clear hba hal
      by_cases hpos : cntL L t ≤ 0
      · have hnx := HNX.out
        rw [if_pos hpos] at hnx
        have HNY := Lib.hid hnx; clear hnx HNX
        generalize cntL L t = ct at *
        go_wp2_with fail
        refine HOP.out.mono ?_
        rintro e w5 ⟨rfl, hb5⟩
        have HO5 := Lib.hid (own_below HOA.out hb5)
        have HB5 := Lib.hid (below_step HBA.out HBA.out.size hb5); clear hb5 HOP
        go_wp2_with fail
        go_roundg (L.length - (kk + 1))
        case measure => omega
        case rel => exact ⟨kk + 1, A, c, O, by omega, rfl, by go_num, rfl, by omega, hO0, HNY, HO5, HB5⟩
      · have hnx := HNX.out
        rw [if_neg hpos] at hnx
        have HNY := Lib.hid hnx; clear hnx HNX
        generalize cntL L t = ct at *
        go_wp2_with fail
        refine HOP.out.mono ?_
        rintro e w5 ⟨rfl, hb5⟩
        have HO5 := Lib.hid (own_below HOA.out hb5)
        have hk5 := HKA.out.of_below hb5
        have HB5 := Lib.hid (below_step HBA.out HBA.out.size hb5); clear hb5 HOP
        have x1 := hk5.cell 1
        have xl := hk5.lt
        simp only [List.getElem?_toArray, List.getElem?_cons_zero, List.getElem?_cons_succ] at x1
        clear hk5 HKA HOA HBA c0 c1 c2 c3 c4 c5
        generalize wr.heap.size = av at *
        have hpl := posU_le O t
        have HPL := Lib.hid (posU_lt O t)
        have HPG := Lib.hid (posU_ge O t)
        have hca : O ≠ [] → ∃ bo, A = some ⟨bo, 0, none⟩ ∧ bo < w5.heap.size ∧ O.length ≤ c ∧ ∀ j, j < O.length → w5.cell? ⟨bo, j, none⟩ = some (.int .i64 (O.getD j 0)) := fun hne => by
          have hpo : 0 < O.length := List.length_pos_iff.2 hne
          obtain ⟨bo, cur, e, -, hk, hc1, hc2, -, hcu⟩ := own_at HO5.out hpo
          refine ⟨bo, e, hk.lt, by omega, fun j hj => ?_⟩
          rw [hk.cell, hcu j (by omega)]
          simp [nums, List.getElem?_map, List.getD_eq_getElem?_getD, List.getElem?_eq_getElem hj]
        have HCA := Lib.hid hca; clear hca
        go_wp2_with fail
        go_loopg [6] (posU O t) (fun gg v6 wx => ∃ j : Nat, j ≤ posU O t ∧ gg = posU O t - j ∧ v6 = .int .i64 j ∧ ∃ q, wx = w5.drewN q)
        case atStart => exact ⟨0, Nat.zero_le _, rfl, rfl, 0, rfl⟩
        case round =>
          obtain ⟨j, hj, rfl, rfl, q, rfl⟩ := hrel
          by_cases hjl : j < O.length
          · obtain ⟨bo, rfl, hbo, hoc, hcell⟩ := HCA.out (by intro e; subst e; simp at hjl)
            have cj := hcell j hjl
            by_cases hjp : j < posU O t
            · have hx := HPL.out j hjp
              generalize O.getD j 0 = x at *
              clear hcell
              go_wp2_with fail
              go_region
              all_goals (
                go_wp2
                go_roundg (posU O t - (j + 1))
                case measure => omega
                case rel => exact ⟨j + 1, by omega, rfl, by go_num, q + 1, rfl⟩)
            · -- NOT BEFORE
              obtain rfl : j = posU O t := by omega
              have hx := HPG.out hjl
              by_cases hxt : O.getD (posU O t) 0 = t
              · have HSAME := Lib.hid (insU_same O t hjl hxt)
                generalize posU O t = pp at *
                generalize O.getD pp 0 = x at *
                subst hxt
                clear hcell
                go_wp2_with fail
                go_region
                all_goals (
                  go_wp2
                  go_region
                  all_goals (
                    go_wp2
                    go_roundg (L.length - (kk + 1))
                    case measure => omega
                    case rel => exact ⟨kk + 1, some ⟨bo, 0, none⟩, c, O, by omega, rfl, by go_num, rfl, by omega, hO0, (show Hid _ from by rw [HNY.out, HSAME.out]; exact (rfl : O = O)), (show Hid _ from own_below HO5.out ⟨rfl, rfl, rfl, Nat.le_refl _, fun _ _ => rfl⟩), (show Hid _ from below_step HB5.out HB5.out.size ⟨rfl, rfl, rfl, Nat.le_refl _, fun _ _ => rfl⟩)⟩))
              · have HINS := Lib.hid (insU_new O t (fun _ => hxt))
                have hxt' : (O.getD (posU O t) 0 == t) = false := by simpa using hxt
                have hpp : posU O t ≤ O.length := hpl
                generalize posU O t = pp at *
                generalize O.getD pp 0 = x at *
                clear hcell hxt
                go_wp2_with fail
                go_region
                all_goals (
                  go_wp2
                  go_region
                  all_goals (
                    go_upto_region 10 with fail
                    go_name_world W hW
                    have HBW := Lib.hid (show RowKit.Below w5.heap.size w5 W from by rw [← hW]; exact ⟨rfl, rfl, rfl, Nat.le_refl _, fun _ _ => rfl⟩)
                    clear hW
                    have x1 := (HBW.out.cell (p := ⟨av, 1, none⟩) xl).trans x1
                    have xl : av < W.heap.size := Nat.lt_of_lt_of_le xl HBW.out.size
                    have hsO : Sl .i64 W (some ⟨bo, 0, none⟩) c O := own_rd (own_below HO5.out HBW.out)
                    have ht1 : Rd 1 W (some ⟨bo, 0, none⟩) pp c (nums .i64 (O.take pp)) := by
                      have := hsO.takeN pp hpp
                      have e : (O.take pp).length = pp := by rw [List.length_take]; omega
                      unfold Sl at this; rw [e] at this; exact this
                    have hcp : ¬ c = pp := by omega
                    have hpc : pp ≤ c := by omega
                    have hpc' : (pp : Int) ≤ (c : Int) := by omega
                    have hpl' : (pp : Int) ≤ (O.length : Int) := by omega
                    have ht2 : Rd 1 W (some ⟨bo, pp, none⟩) (O.length - pp) (c - pp) (nums .i64 (O.drop pp)) := by
                      have := hsO.dropN pp hpp
                      have e : (O.drop pp).length = O.length - pp := by rw [List.length_drop]
                      unfold Sl at this; rw [e, Nat.zero_add] at this; exact this
                    have HT1 := Lib.hid ht1; clear ht1
                    have HT2 := Lib.hid ht2; clear ht2 hsO
                    have HN1 := Lib.hid (World.ownsRow_nil W W.heap.size 3 1)
                    have R1 := Lib.hid (HT1.out)
                    have R3F := Lib.hid (fun (w' : World) (hb : RowKit.Below W.heap.size W w') => HT2.out.below hb)
                    go_wp2_with (first
                      | (at_builtin; refine app_own _ rfl _ _ 53 rfl W.heap.size 3 (.int .i64 0) 1 8 Tryz.underlying53 Tryz.infoI rfl (by decide) (.slice none 0 0) 0 [] rfl HN1.out (some ⟨bo, 0, none⟩) pp c _ rfl R1.out (nums_one _ _) (by omega) (by omega) (Nat.le_refl _) ?_; intro A2 c2 w6 h2 h3 h4; rw [Nat.zero_add, List.nil_append] at h2; have hb6 := (RowKit.Below.refl W.heap.size W).grown h3 (Nat.le_refl _) (fun z hz => by simp [Value.ownBlock] at hz); have hs2 := hb6.size; have x1' := (hb6.cell (p := ⟨av, 1, none⟩) xl).trans x1; have xl' : av < w6.heap.size := Nat.lt_of_lt_of_le xl hs2; have H2 := Lib.hid h2; clear h2; have HB2 := Lib.hid hb6; clear hb6 h3 h4)
                      | (at_builtin; refine app_one w6 rfl (.tmp 52) (.tmp 55) 53 rfl W.heap.size 3 (.int .i64 0) 1 8 Tryz.underlying53 Tryz.infoI rfl (by decide) (.slice A2 pp c2) pp _ rfl H2.out [.int .i64 t] rfl rfl (by simp [Value.oneCell']) (by omega) (by omega) hs2 ?_; intro A3 c3 w7 h6 h7 h8; have hb7 := HB2.out.grown h7 hs2 (fun z hz => own_base H2.out z hz); have hs3 := hb7.size; have R3 := Lib.hid (R3F.out w7 hb7); have H6 := Lib.hid h6; clear h6; have HB7 := Lib.hid hb7; clear hb7 h7 h8)
                      | (at_builtin; refine app_own _ rfl _ _ 53 rfl W.heap.size 3 (.int .i64 0) 1 8 Tryz.underlying53 Tryz.infoI rfl (by decide) (.slice A3 (pp + 1) c3) (pp + 1) _ rfl H6.out (some ⟨bo, pp, none⟩) (O.length - pp) (c - pp) _ rfl R3.out (nums_one _ _) (by omega) (by omega) hs3 ?_; intro A4 c4 w8 h9 h10 h11; have hb8 := HB7.out.grown h10 hs3 (fun z hz => own_base H6.out z hz); have H9 := Lib.hid h9; clear h9; have HB8 := Lib.hid hb8; clear hb8 h10 h11))
                    go_roundg (L.length - (kk + 1))
                    case measure => omega
                    case rel =>
                      have hbw := below_step HB5.out HB5.out.size HBW.out
                      have hins := HINS.out
                      have hlen : (insU O t).length = pp + 1 + (O.length - pp) := by rw [hins]; simp [List.length_take, List.length_drop]; omega
                      refine ⟨kk + 1, A4, c4, insU O t, by omega, rfl, by go_num, by rw [hlen], by omega, fun e => absurd (congrArg List.length e) (by rw [hlen]; simp), HNY, (show Hid _ from ?_), (show Hid _ from below_step hbw hbw.size HB8.out)⟩
                      rw [hlen, hins]
                      have h9 := own_mono H9.out hbw.size
                      have en : nums .i64 (O.take pp ++ [t] ++ O.drop pp) = nums .i64 (O.take pp) ++ [.int .i64 t] ++ nums .i64 (O.drop pp) := by simp [nums]
                      rw [en]; exact h9))
          · obtain rfl : j = posU O t := by omega
            by_cases hnil : O = []
            · have hA0 := hO0 hnil
              have hpp0 : posU O t = 0 := by rw [hnil]; rfl
              have HINS := Lib.hid (insU_new O t (fun h => absurd h hjl))
              have hpp : posU O t ≤ O.length := hpl
              generalize posU O t = pp at *
              have hlf : decide ((pp : Int) < (O.length : Int)) = false := decide_eq_false (by omega)
              have hlf2 : decide (pp < O.length) = false := decide_eq_false (by omega)
              have HNIL1 := Lib.hid (fun (V : World) => (show Rd 1 V A pp c (nums .i64 (O.take pp)) from by obtain ⟨rfl, rfl⟩ := hA0; subst hpp0 hnil; exact Rd.nil_ 1 V))
              have HNIL2 := Lib.hid (fun (V : World) => (show Rd 1 V A (O.length - pp) (c - pp) (nums .i64 (O.drop pp)) from by obtain ⟨rfl, rfl⟩ := hA0; subst hpp0 hnil; exact Rd.nil_ 1 V))
              have hsl1 : ∀ V, (Instr.sliceAt 53 (.slice A O.length c) none (some (.int .i64 pp)) none).run Tryz.prog V = .ok (.slice A pp c) V := fun V => by obtain ⟨rfl, rfl⟩ := hA0; subst hpp0 hnil; go_simp
              have hsl3 : ∀ V, (Instr.sliceAt 53 (.slice A O.length c) (some (.int .i64 pp)) none none).run Tryz.prog V = .ok (.slice A (O.length - pp) (c - pp)) V := fun V => by obtain ⟨rfl, rfl⟩ := hA0; subst hpp0 hnil; go_simp
              clear hA0 hpp0 hnil hO0 hjl
              go_wp2_with fail
              go_region
              all_goals (
                go_wp2
                go_region
                all_goals (
                  go_upto_region 10 with fail
                  go_name_world W hW
                  have HBW := Lib.hid (show RowKit.Below w5.heap.size w5 W from by rw [← hW]; exact ⟨rfl, rfl, rfl, Nat.le_refl _, fun _ _ => rfl⟩)
                  clear hW
                  have x1 := (HBW.out.cell (p := ⟨av, 1, none⟩) xl).trans x1
                  have xl : av < W.heap.size := Nat.lt_of_lt_of_le xl HBW.out.size
                  have HN1 := Lib.hid (World.ownsRow_nil W W.heap.size 3 1)
                  have R1 := Lib.hid ((show Rd 1 W A pp c (nums .i64 (O.take pp)) from HNIL1.out W))
                  have R3F := Lib.hid (fun (w' : World) (hb : RowKit.Below W.heap.size W w') => (show Rd 1 w' A (O.length - pp) (c - pp) (nums .i64 (O.drop pp)) from HNIL2.out w'))
                  go_wp2_with (first
                    | (at_builtin; refine app_own _ rfl _ _ 53 rfl W.heap.size 3 (.int .i64 0) 1 8 Tryz.underlying53 Tryz.infoI rfl (by decide) (.slice none 0 0) 0 [] rfl HN1.out A pp c _ rfl R1.out (nums_one _ _) (by omega) (by omega) (Nat.le_refl _) ?_; intro A2 c2 w6 h2 h3 h4; rw [Nat.zero_add, List.nil_append] at h2; have hb6 := (RowKit.Below.refl W.heap.size W).grown h3 (Nat.le_refl _) (fun z hz => by simp [Value.ownBlock] at hz); have hs2 := hb6.size; have x1' := (hb6.cell (p := ⟨av, 1, none⟩) xl).trans x1; have xl' : av < w6.heap.size := Nat.lt_of_lt_of_le xl hs2; have H2 := Lib.hid h2; clear h2; have HB2 := Lib.hid hb6; clear hb6 h3 h4)
                    | (at_builtin; refine app_one w6 rfl (.tmp 52) (.tmp 55) 53 rfl W.heap.size 3 (.int .i64 0) 1 8 Tryz.underlying53 Tryz.infoI rfl (by decide) (.slice A2 pp c2) pp _ rfl H2.out [.int .i64 t] rfl rfl (by simp [Value.oneCell']) (by omega) (by omega) hs2 ?_; intro A3 c3 w7 h6 h7 h8; have hb7 := HB2.out.grown h7 hs2 (fun z hz => own_base H2.out z hz); have hs3 := hb7.size; have R3 := Lib.hid (R3F.out w7 hb7); have H6 := Lib.hid h6; clear h6; have HB7 := Lib.hid hb7; clear hb7 h7 h8)
                    | (at_builtin; refine app_own _ rfl _ _ 53 rfl W.heap.size 3 (.int .i64 0) 1 8 Tryz.underlying53 Tryz.infoI rfl (by decide) (.slice A3 (pp + 1) c3) (pp + 1) _ rfl H6.out A (O.length - pp) (c - pp) _ rfl R3.out (nums_one _ _) (by omega) (by omega) hs3 ?_; intro A4 c4 w8 h9 h10 h11; have hb8 := HB7.out.grown h10 hs3 (fun z hz => own_base H6.out z hz); have H9 := Lib.hid h9; clear h9; have HB8 := Lib.hid hb8; clear hb8 h10 h11))
                  go_roundg (L.length - (kk + 1))
                  case measure => omega
                  case rel =>
                    have hbw := below_step HB5.out HB5.out.size HBW.out
                    have hins := HINS.out
                    have hlen : (insU O t).length = pp + 1 + (O.length - pp) := by rw [hins]; simp [List.length_take, List.length_drop]; omega
                    refine ⟨kk + 1, A4, c4, insU O t, by omega, rfl, by go_num, by rw [hlen], by omega, fun e => absurd (congrArg List.length e) (by rw [hlen]; simp), HNY, (show Hid _ from ?_), (show Hid _ from below_step hbw hbw.size HB8.out)⟩
                    rw [hlen, hins]
                    have h9 := own_mono H9.out hbw.size
                    have en : nums .i64 (O.take pp ++ [t] ++ O.drop pp) = nums .i64 (O.take pp) ++ [.int .i64 t] ++ nums .i64 (O.drop pp) := by simp [nums]
                    rw [en]; exact h9))
            · obtain ⟨bo, rfl, hbo, hoc, hcell⟩ := HCA.out hnil
              have HINS := Lib.hid (insU_new O t (fun h => absurd h hjl))
              have hpp : posU O t ≤ O.length := hpl
              generalize posU O t = pp at *
              obtain rfl : pp = O.length := by omega
              clear hcell
              go_wp2_with fail
              go_region
              all_goals (
                go_wp2
                go_region
                all_goals (
                  go_upto_region 10 with fail
                  go_name_world W hW
                  have HBW := Lib.hid (show RowKit.Below w5.heap.size w5 W from by rw [← hW]; exact ⟨rfl, rfl, rfl, Nat.le_refl _, fun _ _ => rfl⟩)
                  clear hW
                  have x1 := (HBW.out.cell (p := ⟨av, 1, none⟩) xl).trans x1
                  have xl : av < W.heap.size := Nat.lt_of_lt_of_le xl HBW.out.size
                  have hsO : Sl .i64 W (some ⟨bo, 0, none⟩) c O := own_rd (own_below HO5.out HBW.out)
                  have HT1 := Lib.hid (show Rd 1 W (some ⟨bo, 0, none⟩) O.length c (nums .i64 O) from hsO); clear hsO
                  have HT2 := Lib.hid (fun (V : World) (o c' : Nat) => (show Rd 1 V (some ⟨bo, o, none⟩) 0 c' [] from ⟨rfl, Nat.zero_le _, (fun h => by cases h), fun h => absurd h (by omega)⟩))
                  have hpc' : (O.length : Int) ≤ (c : Int) := by omega
                  by_cases hcp : c = O.length
                  · subst c
                    have HN1 := Lib.hid (World.ownsRow_nil W W.heap.size 3 1)
                    have R1 := Lib.hid (HT1.out)
                    have R3F := Lib.hid (fun (w' : World) (hb : RowKit.Below W.heap.size W w') => HT2.out w' 0 0)
                    go_wp2_with (first
                      | (at_builtin; refine app_own _ rfl _ _ 53 rfl W.heap.size 3 (.int .i64 0) 1 8 Tryz.underlying53 Tryz.infoI rfl (by decide) (.slice none 0 0) 0 [] rfl HN1.out (some ⟨bo, 0, none⟩) O.length O.length _ rfl R1.out (nums_one _ _) (by omega) (by omega) (Nat.le_refl _) ?_; intro A2 c2 w6 h2 h3 h4; rw [Nat.zero_add, List.nil_append] at h2; have hb6 := (RowKit.Below.refl W.heap.size W).grown h3 (Nat.le_refl _) (fun z hz => by simp [Value.ownBlock] at hz); have hs2 := hb6.size; have x1' := (hb6.cell (p := ⟨av, 1, none⟩) xl).trans x1; have xl' : av < w6.heap.size := Nat.lt_of_lt_of_le xl hs2; have H2 := Lib.hid h2; clear h2; have HB2 := Lib.hid hb6; clear hb6 h3 h4)
                      | (at_builtin; refine app_one w6 rfl (.tmp 52) (.tmp 55) 53 rfl W.heap.size 3 (.int .i64 0) 1 8 Tryz.underlying53 Tryz.infoI rfl (by decide) (.slice A2 O.length c2) O.length _ rfl H2.out [.int .i64 t] rfl rfl (by simp [Value.oneCell']) (by omega) (by omega) hs2 ?_; intro A3 c3 w7 h6 h7 h8; have hb7 := HB2.out.grown h7 hs2 (fun z hz => own_base H2.out z hz); have hs3 := hb7.size; have R3 := Lib.hid (R3F.out w7 hb7); have H6 := Lib.hid h6; clear h6; have HB7 := Lib.hid hb7; clear hb7 h7 h8)
                      | (at_builtin; refine app_own _ rfl _ _ 53 rfl W.heap.size 3 (.int .i64 0) 1 8 Tryz.underlying53 Tryz.infoI rfl (by decide) (.slice A3 (O.length + 1) c3) (O.length + 1) _ rfl H6.out (some ⟨bo, 0, none⟩) 0 0 _ rfl R3.out (fun u hu => by cases hu) (by omega) (by omega) hs3 ?_; intro A4 c4 w8 h9 h10 h11; have hb8 := HB7.out.grown h10 hs3 (fun z hz => own_base H6.out z hz); have H9 := Lib.hid h9; clear h9; have HB8 := Lib.hid hb8; clear hb8 h10 h11))
                    go_roundg (L.length - (kk + 1))
                    case measure => omega
                    case rel =>
                      have hbw := below_step HB5.out HB5.out.size HBW.out
                      have hins := HINS.out
                      have hlen : (insU O t).length = O.length + 1 + 0 := by rw [hins]; simp 
                      refine ⟨kk + 1, A4, c4, insU O t, by omega, rfl, by go_num, by rw [hlen], by omega, fun e => absurd (congrArg List.length e) (by rw [hlen]; simp), HNY, (show Hid _ from ?_), (show Hid _ from below_step hbw hbw.size HB8.out)⟩
                      rw [hlen, hins]
                      have h9 := own_mono H9.out hbw.size
                      have en : nums .i64 (O.take O.length ++ [t] ++ O.drop O.length) = nums .i64 O ++ [.int .i64 t] ++ [] := by simp [nums]
                      rw [en]; exact h9
                  · have HN1 := Lib.hid (World.ownsRow_nil W W.heap.size 3 1)
                    have R1 := Lib.hid (HT1.out)
                    have R3F := Lib.hid (fun (w' : World) (hb : RowKit.Below W.heap.size W w') => HT2.out w' O.length (c - O.length))
                    go_wp2_with (first
                      | (at_builtin; refine app_own _ rfl _ _ 53 rfl W.heap.size 3 (.int .i64 0) 1 8 Tryz.underlying53 Tryz.infoI rfl (by decide) (.slice none 0 0) 0 [] rfl HN1.out (some ⟨bo, 0, none⟩) O.length c _ rfl R1.out (nums_one _ _) (by omega) (by omega) (Nat.le_refl _) ?_; intro A2 c2 w6 h2 h3 h4; rw [Nat.zero_add, List.nil_append] at h2; have hb6 := (RowKit.Below.refl W.heap.size W).grown h3 (Nat.le_refl _) (fun z hz => by simp [Value.ownBlock] at hz); have hs2 := hb6.size; have x1' := (hb6.cell (p := ⟨av, 1, none⟩) xl).trans x1; have xl' : av < w6.heap.size := Nat.lt_of_lt_of_le xl hs2; have H2 := Lib.hid h2; clear h2; have HB2 := Lib.hid hb6; clear hb6 h3 h4)
                      | (at_builtin; refine app_one w6 rfl (.tmp 52) (.tmp 55) 53 rfl W.heap.size 3 (.int .i64 0) 1 8 Tryz.underlying53 Tryz.infoI rfl (by decide) (.slice A2 O.length c2) O.length _ rfl H2.out [.int .i64 t] rfl rfl (by simp [Value.oneCell']) (by omega) (by omega) hs2 ?_; intro A3 c3 w7 h6 h7 h8; have hb7 := HB2.out.grown h7 hs2 (fun z hz => own_base H2.out z hz); have hs3 := hb7.size; have R3 := Lib.hid (R3F.out w7 hb7); have H6 := Lib.hid h6; clear h6; have HB7 := Lib.hid hb7; clear hb7 h7 h8)
                      | (at_builtin; refine app_own _ rfl _ _ 53 rfl W.heap.size 3 (.int .i64 0) 1 8 Tryz.underlying53 Tryz.infoI rfl (by decide) (.slice A3 (O.length + 1) c3) (O.length + 1) _ rfl H6.out (some ⟨bo, O.length, none⟩) 0 (c - O.length) _ rfl R3.out (fun u hu => by cases hu) (by omega) (by omega) hs3 ?_; intro A4 c4 w8 h9 h10 h11; have hb8 := HB7.out.grown h10 hs3 (fun z hz => own_base H6.out z hz); have H9 := Lib.hid h9; clear h9; have HB8 := Lib.hid hb8; clear hb8 h10 h11))
                    go_roundg (L.length - (kk + 1))
                    case measure => omega
                    case rel =>
                      have hbw := below_step HB5.out HB5.out.size HBW.out
                      have hins := HINS.out
                      have hlen : (insU O t).length = O.length + 1 + 0 := by rw [hins]; simp 
                      refine ⟨kk + 1, A4, c4, insU O t, by omega, rfl, by go_num, by rw [hlen], by omega, fun e => absurd (congrArg List.length e) (by rw [hlen]; simp), HNY, (show Hid _ from ?_), (show Hid _ from below_step hbw hbw.size HB8.out)⟩
                      rw [hlen, hins]
                      have h9 := own_mono H9.out hbw.size
                      have en : nums .i64 (O.take O.length ++ [t] ++ O.drop O.length) = nums .i64 O ++ [.int .i64 t] ++ [] := by simp [nums]
                      rw [en]; exact h9))
    · have : kk = L.length := by omega
      subst this
      have hp := HP.out
      rw [List.take_length] at hp
      have HPE := Lib.hid hp
      have HSL := Lib.hid (show Sl .i64 wr A c O from own_rd HO.out)
      clear hp
      go_wp2
      go_ret
      exact ⟨A, c, by rw [HPE.out]; rfl, by rw [HPE.out]; exact HSL.out, BW.out⟩
end Go.Proofs.YtonfaojmphidpaaGreatDoor
