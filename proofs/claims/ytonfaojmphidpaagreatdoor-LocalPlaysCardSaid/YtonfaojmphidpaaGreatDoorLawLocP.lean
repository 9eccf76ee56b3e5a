/- The walk of layer 12's law LocalPlays. -/
import Derived.Test.YtonfaojmphidpaaGreatDoorLocS
import Derived.Deep.CutRange
import Derived.Deep.CutBlock
namespace Go.Proofs.YtonfaojmphidpaaGreatDoor
open Go.RowKit
set_option linter.unusedVariables false
set_option linter.unusedSimpArgs false

/-- What is known between the pieces of a round. -/
structure LpIn (w wr : World) (g : Nat) (X Y : List (List Int)) (ad : Option Addr) (cd : Nat) : Prop where
  ls : ∃ F, Ls wr g F ∧ xsOf F = X
  rl : ∃ R, Rl wr w.heap.size ad cd R ∧ xsOf R = Y
  gw : w.heap.size ≤ g
  bl : RowKit.Below w.heap.size w wr
section
variable {w wr w' : World} {g : Nat} {X Y : List (List Int)} {ad : Option Addr} {cd : Nat}
theorem LpIn.of_below (h : LpIn w wr g X Y ad cd) (hb : RowKit.Below wr.heap.size wr w') : LpIn w w' g X Y ad cd := by
  obtain ⟨⟨F, hF, hX⟩, ⟨R, hR, hY⟩, h3, h4⟩ := h
  exact ⟨⟨F, hF.of_below hb, hX⟩, ⟨R, hR.of_below hb, hY⟩, h3, below_step h4 h4.size hb⟩
/-- The lists have turned. -/
theorem LpIn.turn (h : LpIn w wr g X Y ad cd) {F : List Ln} (hF : Ls wr g F) {X' : List (List Int)} (ht : LsX wr g X' w') : LpIn w w' g X' Y ad cd := by
  obtain ⟨-, ⟨R, hR, hY⟩, h3, h4⟩ := h
  obtain ⟨F', hF', hX', hg⟩ := ht
  exact ⟨⟨F', hF', hX'⟩, ⟨R, hR.keepLs hF hg, hY⟩, h3, hg.below h4 (fun k _ hk => by rw [hk]; exact h3) h4.size⟩
theorem LpIn.next (h : LpIn w wr g X Y ad cd) {a' : Option Addr} {c' : Nat} {Y' : List (List Int)} (ht : RlX wr w.heap.size a' c' Y' w') : LpIn w w' g X Y' a' c' := by
  obtain ⟨⟨F, hF, hX⟩, -, h3, h4⟩ := h
  obtain ⟨hR, hb⟩ := ht
  exact ⟨⟨F, hF.of_below hb, hX⟩, hR, h3, below_step h4 h4.size hb⟩
end
theorem in_th {th : Int} : putE th = if 0 ≤ th ∧ th < 8 then 0 else 2 := rfl

set_option maxRecDepth 100000 in
set_option maxHeartbeats 16000000 in
theorem law_LocalPlays (a : Option Addr) (len cap : Nat) (ls : List LAct) (w : World) (h1 : LActsIn w a len ls) :
    Calls Tryz.prog 9 #[.slice a len cap] w fun e w' => e = .returned (.bool true) ∧ RowKit.Below w.heap.size w w' := by
  obtain ⟨rfl, hn1, hwf1, hs1⟩ := h1
  by_cases hbig : 100 < ls.length
  · clear hs1 hwf1
    go_enter Tryz.func9, Tryz.ntmps9
    go_wp2_with (go_at_call 44; refine (law12_awake _).mono ?_; rintro e w' ⟨rfl, hb⟩)
    go_ret
    exact ⟨rfl, hb⟩
  have HWF := Lib.hid hwf1; clear hwf1
  have HS1 := Lib.hid hs1; clear hs1
  go_enter Tryz.func9, Tryz.ntmps9
  go_wp2_with fail
  refine (law12_awake _).mono ?_
  rintro e w1 ⟨rfl, hb1⟩
  have HB1 := Lib.hid hb1; clear hb1
  go_wp2_with fail
  refine (local_New _).mono ?_
  rintro e w2 ⟨rfl, rfl⟩
  have hs0 := Ls.new w1
  have hB2 := HB1.out.alloc HB1.out.size (.cells #[.slice none 0 0, .slice none 0 0, .slice none 0 0, .slice none 0 0, .slice none 0 0, .slice none 0 0, .slice none 0 0, .slice none 0 0] 146)
  have hgw : w.heap.size ≤ w1.heap.size := HB1.out.size
  generalize w1.alloc (.cells #[.slice none 0 0, .slice none 0 0, .slice none 0 0, .slice none 0 0, .slice none 0 0, .slice none 0 0, .slice none 0 0, .slice none 0 0] 146) = w2 at *
  generalize w1.heap.size = g at *
  have HS0 := Lib.hid hs0; clear hs0
  have HB2 := Lib.hid hB2; clear hB2 HB1
  go_wp2_with fail
  refine (ref12_New _).mono ?_
  rintro e w3 ⟨ad, cd, rfl, hr0, hb3⟩
  have HR : Hid (LpIn w w3 g (xsOf (List.replicate 8 ⟨none, 0, []⟩)) (xsOf (List.replicate 8 ⟨none, 0, []⟩)) ad cd) := ⟨⟨_, HS0.out.of_below hb3, rfl⟩, ⟨_, hr0.mono HB2.out.size, rfl⟩, hgw, below_step HB2.out HB2.out.size hb3⟩
  clear hr0 hb3 HS0 HB2 hgw
  generalize xsOf (List.replicate 8 ⟨none, 0, []⟩) = X0 at *
  go_wp2_with fail
  go_loopg [3, 4, 29] ls.length (fun gh v3 v4 iv wr => ∃ (k g : Nat) (X : List (List Int)) (ad : Option Addr) (cd : Nat), gh = ls.length - k ∧ k ≤ ls.length ∧ v3 = .pointer (some ⟨g, 0, none⟩) ∧ v4 = .slice ad 8 cd ∧ iv = .int .i64 k ∧ Hid (LpIn w wr g X X ad cd))
  case atStart => exact ⟨0, g, X0, ad, cd, rfl, by omega, rfl, rfl, rfl, HR⟩
  case round =>
    clear HR
    obtain ⟨k, g, X, ad, cd, rfl, hk, rfl, rfl, rfl, HR⟩ := hrel
    by_cases hlt : k < ls.length
    · obtain ⟨b0, off, rfl, hbs, hc⟩ := HS1.out (by omega)
      have c0 := (HR.out.bl.cell (p := ⟨b0, off + (k * 4 + 0), none⟩) hbs).trans (hc k hlt 0 _ rfl)
      have c1 := (HR.out.bl.cell (p := ⟨b0, off + (k * 4 + 1), none⟩) hbs).trans (hc k hlt 1 _ rfl)
      have c2 := (HR.out.bl.cell (p := ⟨b0, off + (k * 4 + 2), none⟩) hbs).trans (hc k hlt 2 _ rfl)
      have c3 := (HR.out.bl.cell (p := ⟨b0, off + (k * 4 + 3), none⟩) hbs).trans (hc k hlt 3 _ rfl)
      simp only [← Nat.add_assoc, Nat.add_zero] at c0 c1 c2 c3
      clear hc
      have hxr := HWF.out (ls.getD k default) (getD_mem hlt)
      generalize ls.getD k default = x at *
      obtain ⟨th, ⟨ia, ic, ys⟩, tk, cl⟩ := x
      dsimp only [Ln.val] at *
      obtain ⟨hth0, hth1, hyl, hys⟩ := hxr
      have HY := Lib.hid hys; clear hys
      have hal := (RowKit.Below.refl wr.heap.size wr).alloc (Nat.le_refl _) (.cells #[.int .i64 th, .slice ia ys.length ic, .bool tk, .bool cl] 90)
      have HR1 := Lib.hid (HR.out.of_below hal)
      have HA := Lib.hid (Blk.new wr 90 #[.int .i64 th, .slice ia ys.length ic, .bool tk, .bool cl])
      clear hal
      by_cases h20 : 20 < ys.length
      · go_wp2
        go_ret
        exact ⟨rfl, HR1.out.bl⟩
      go_upto_if 38 with fail
      generalize wr.alloc (.cells #[.int .i64 th, .slice ia ys.length ic, .bool tk, .bool cl] 90) = W at *
      clear c0 c1 c2 c3 HR hbs
      generalize wr.heap.size = av at *
      go_cut [3, 29] from 29 to 138 (fun v3 iv wc => iv = .int .i64 k ∧ ∃ (g : Nat), v3 = .pointer (some ⟨g, 0, none⟩) ∧ Hid (LpIn w wc g X X ad cd) ∧ Hid (Blk wc av 90 #[.int .i64 th, .slice ia ys.length ic, .bool tk, .bool cl]))
      case first =>
        cases cl
        · go_wp2
          go_meet
          exact ⟨rfl, g, rfl, HR1, HA⟩
        · obtain ⟨F, hF, hX⟩ := HR1.out.ls
          have hcl := local_Clone g F W hF
          have HCL := Lib.hid hcl; clear hcl
          have HF := Lib.hid hF; clear hF
          have HX := Lib.hid hX; clear hX
          go_wp2_with fail
          refine HCL.out.mono ?_
          rintro e w2 ⟨g2, G, rfl, hG, hsame, hg2, hb2⟩
          have hXG : xsOf G = X := (xsOf_of_getD HF.out.n8 hG.n8 hsame).trans HX.out
          have h2 := HR1.out.of_below hb2
          have k2 := HA.out.of_below hb2
          have f2 := HF.out.of_below hb2
          have hne : g2 ≠ g := by have := HF.out.blk.lt; omega
          have hal := (RowKit.Below.refl w2.heap.size w2).alloc (Nat.le_refl _) (.cells #[.int .u64 1, .int .u64 2] 28)
          have hput : Calls Tryz.prog 48 #[.pointer (some ⟨g, 0, none⟩), .int .i64 0, .slice (some ⟨w2.heap.size, 0, none⟩) 2 2] (w2.alloc (.cells #[.int .u64 1, .int .u64 2] 28)) fun e w' => e = .returned (.int .i64 (putE 0)) ∧ LsX (w2.alloc (.cells #[.int .u64 1, .int .u64 2] 28)) g (putX (xsOf F) 0 [1, 2]) w' :=
            local_Put_sum g F 0 (some ⟨w2.heap.size, 0, none⟩) 2 [1, 2] _ (f2.of_below hal) (Sl.blk (xs := [1, 2]) (Blk.new _ _ _)) (by decide)
          have HP := Lib.hid hput; clear hput
          have H2 := Lib.hid (h2.of_below hal)
          have HK2 := Lib.hid (k2.of_below hal)
          have HG2 := Lib.hid (hG.of_below hal)
          have HF2 := Lib.hid (f2.of_below hal)
          have HXG := Lib.hid hXG
          clear h2 k2 hG f2 hb2 hal hsame hXG HCL
          go_wp2_with fail
          refine HP.out.mono ?_
          rintro e w4 ⟨rfl, F4, hF4, -, hg4⟩
          have htk := local_Take_sum g F4 1 w4 hF4
          have HTK := Lib.hid htk; clear htk
          have H4 := Lib.hid (H2.out.turn HF2.out ⟨F4, hF4, rfl, hg4⟩)
          have HK4 := Lib.hid (Blk.keepLs HF2.out HK2.out (by decide) hg4)
          have HG4 := Lib.hid (HG2.out.keepLs HF2.out hne hg4)
          have HF4 := Lib.hid hF4
          clear hF4 hg4 HP
          go_wp2_with fail
          refine HTK.out.mono ?_
          rintro e w5 ⟨rfl, F5, hF5, -, hg5⟩
          have H5 := H4.out.turn HF4.out ⟨F5, hF5, rfl, hg5⟩
          have HK5 := Lib.hid (Blk.keepLs HF4.out HK4.out (by decide) hg5)
          have HG5 := HG4.out.keepLs HF4.out hne hg5
          have hws := HR1.out.bl.size
          have S5 := Lib.hid (show LpIn w w5 g2 X X ad cd from ⟨⟨G, HG5, HXG.out⟩, H5.rl, by omega, H5.bl⟩)
          clear H5 HG5 hF5 hg5 HTK
          go_wp2_with fail
          go_meet
          exact ⟨rfl, g2, rfl, S5, HK5⟩
      case rest =>
        clear HR1 HA
        obtain ⟨rfl, g, rfl, HR, HA⟩ := hcut
        have x0 := HA.out.cell 0
        have x1 := HA.out.cell 1
        have x2 := HA.out.cell 2
        have xl := HA.out.lt
        simp only [List.getElem?_toArray, List.getElem?_cons_zero, List.getElem?_cons_succ] at x0 x1 x2
        obtain ⟨F, hF, hX⟩ := HR.out.ls
        have HF := Lib.hid hF; clear hF
        have HX := Lib.hid hX; clear hX
        go_upto_if 48 with fail
        go_cut [4, 29] from 29 to 138 (fun v4 iv wx => iv = .int .i64 k ∧ ∃ (X : List (List Int)) (ad : Option Addr) (cd : Nat), v4 = .slice ad 8 cd ∧ Hid (LpIn w wx g X X ad cd))
        case first =>
          cases tk
          · have hp := local_Put_sum g F th ia ic ys wc HF.out (HY.out.below HR.out.bl) (by omega)
            rw [HX.out] at hp
            have hpc : (th < 0 → putE th = 2) ∧ (7 < th → putE th = 2) ∧ (¬ th < 0 → ¬ 7 < th → putE th = 0) := by
              unfold putE
              refine ⟨fun h => if_neg (by omega), fun h => if_neg (by omega), fun h h' => if_pos (by omega)⟩
            generalize putE th = pe at hp hpc
            have HP := Lib.hid hp; clear hp
            have HPC := Lib.hid hpc; clear hpc
            go_wp2_with fail
            refine HP.out.mono ?_
            rintro e w3 ⟨rfl, hls⟩
            have H3 := Lib.hid (HR.out.turn HF.out hls)
            have HX4 := Lib.hid (show ∀ x ∈ X, x.length ≤ 4 from HX.out ▸ HF.out.lenX)
            have HX8 := Lib.hid (show X.length = 8 from by rw [← HX.out]; exact (List.length_map _).trans HF.out.n8)
            have hA3 : Blk w3 av 90 #[.int .i64 th, .slice ia ys.length ic, .bool false, .bool cl] := by
              obtain ⟨F', _, _, hg⟩ := hls
              exact Blk.keepLs HF.out HA.out (by decide) hg
            have y0 := hA3.cell 0
            have y1 := hA3.cell 1
            have yl := hA3.lt
            simp only [List.getElem?_toArray, List.getElem?_cons_zero, List.getElem?_cons_succ] at y0 y1
            have HA3 := Lib.hid hA3
            clear hA3 hls HP x0 x1 x2 xl
            go_upto_region 24 with fail
            go_cut [86] from 79 to 86 (fun v86 wy => (∃ bb, v86 = .bool bb ∧ (bb = true → pe = 2) ∧ (bb = false → pe = 0)) ∧ w3 = wy)
            case first =>
              by_cases ha : th < 0
              · go_wp2
                go_meet
                exact ⟨⟨true, by go_num, fun _ => HPC.out.1 ha, fun h => by cases h⟩, rfl⟩
              · by_cases hb : 7 < th
                · go_wp2
                  go_meet
                  exact ⟨⟨true, by go_num, fun _ => HPC.out.2.1 hb, fun h => by cases h⟩, rfl⟩
                · go_wp2
                  go_meet
                  exact ⟨⟨false, by go_num, (fun h => by cases h), fun _ => HPC.out.2.2 (by omega) (by omega)⟩, rfl⟩
            case rest =>
            obtain ⟨⟨bb, rfl, hbt, hbf⟩, hwy⟩ := hcut
            subst hwy
            have HBT := Lib.hid hbt; clear hbt
            have HBF := Lib.hid hbf; clear hbf
            go_upto_if 86 with fail
            go_cut [14, 29] from 29 to 138 (fun v14 iv wz => iv = .int .i64 k ∧ v14 = .int .i64 pe ∧ w3 = wz)
            case first =>
              cases bb
              · obtain rfl := HBF.out rfl
                go_wp2
                go_meet
                exact ⟨rfl, rfl, rfl⟩
              · obtain rfl := HBT.out rfl
                go_wp2
                go_meet
                exact ⟨rfl, rfl, rfl⟩
            case rest =>
            obtain ⟨rfl, rfl, hwz⟩ := hcut
            subst hwz
            go_wp2_with fail
            go_loopg [4, 93] ys.length (fun gh v4 iv wz => ∃ (m : Nat) (ad : Option Addr) (cd : Nat), gh = ys.length - m ∧ m ≤ ys.length ∧ v4 = .slice ad 8 cd ∧ iv = .int .i64 m ∧ Hid (LpIn w wz g (putX X th ys) (putX X th (ys.take m)) ad cd) ∧ Hid (Blk wz av 90 #[.int .i64 th, .slice ia ys.length ic, .bool false, .bool cl]))
            case atStart => exact ⟨0, ad, cd, rfl, by omega, rfl, rfl, (show Hid _ from by rw [List.take_zero, putX_nil HX4.out]; exact H3.out), HA3⟩
            case round =>
              clear H3 HA3 y0 y1 yl
              obtain ⟨m, ad, cd, rfl, hm, rfl, rfl, H3, HA3⟩ := hrel
              by_cases hlm : m < ys.length
              · obtain ⟨bi, oi, rfl, hbi, hci⟩ := HY.out.at_ (by omega)
                have ci := (H3.out.bl.cell (p := ⟨bi, oi + m, none⟩) hbi).trans (hci m hlm)
                clear hci
                obtain ⟨R, hR, hRX⟩ := H3.out.rl
                have hr := ref12_Put_sum ad cd R th (ys.getD m 0) w.heap.size wr hR H3.out.bl.size
                have htk : ys.take m ++ [ys.getD m 0] = ys.take (m + 1) := (take_snoc2 (by rw [List.getD_eq_getElem?_getD, List.getElem?_eq_getElem hlm]; rfl)).symm
                rw [hRX, putX_snoc X HX8.out, htk] at hr
                generalize ys.getD m 0 = y at *
                have y0 := HA3.out.cell 0
                have yl := HA3.out.lt
                simp only [List.getElem?_toArray, List.getElem?_cons_zero, List.getElem?_cons_succ] at y0
                have HRR := Lib.hid hr; clear hr hR hRX htk
                go_wp2_with fail
                refine HRR.out.mono ?_
                rintro e w5 ⟨a5, c5, rfl, hrx⟩
                have H5 := Lib.hid (H3.out.next hrx)
                have HA5 := Lib.hid (HA3.out.of_below hrx.2)
                clear hrx HRR
                go_wp2_with fail
                go_roundg (ys.length - (m + 1))
                case measure => omega
                case rel => exact ⟨m + 1, a5, c5, rfl, by omega, rfl, by go_num, H5, HA5⟩
              · obtain rfl : m = ys.length := by omega
                rw [List.take_length] at H3
                go_wp2
                go_meet
                exact ⟨rfl, putX X th ys, ad, cd, rfl, H3⟩
          · have ht := local_Take_sum g F th wc HF.out
            rw [HX.out] at ht
            generalize hE1 : takeV X th = v1 at ht
            generalize hE2 : takeK X th = v2 at ht
            generalize hE3 : takeX X th = X2 at ht
            have HE1 := Lib.hid hE1; clear hE1
            have HE2 := Lib.hid hE2; clear hE2
            have HE3 := Lib.hid hE3; clear hE3
            have HT := Lib.hid ht; clear ht
            go_wp2_with fail
            refine HT.out.mono ?_
            rintro e w3 ⟨rfl, hls⟩
            have H3 := Lib.hid (HR.out.turn HF.out hls)
            have hA3 : Blk w3 av 90 #[.int .i64 th, .slice ia ys.length ic, .bool true, .bool cl] := by
              obtain ⟨F', _, _, hg⟩ := hls
              exact Blk.keepLs HF.out HA.out (by decide) hg
            have y0 := hA3.cell 0
            have yl := hA3.lt
            simp only [List.getElem?_toArray, List.getElem?_cons_zero, List.getElem?_cons_succ] at y0
            obtain ⟨R, hR, hRX⟩ := H3.out.rl
            have hr := ref12_Take_sum ad cd R th w.heap.size w3 hR H3.out.bl.size
            rw [hRX, HE1.out, HE2.out, HE3.out] at hr
            have HRR := Lib.hid hr; clear hr hR hRX hA3 hls HT
            go_wp2_with fail
            refine HRR.out.mono ?_
            rintro e w4 ⟨a4, c4, rfl, hrx⟩
            have H4 := Lib.hid (H3.out.next hrx); clear hrx HRR
            go_wp2_with fail
            go_meet
            exact ⟨rfl, X2, a4, c4, rfl, H4⟩
        case rest =>
          clear HR HA HF HX x0 x1 x2 xl
          obtain ⟨rfl, X, ad, cd, rfl, HR⟩ := hcut
          obtain ⟨F, hF, hX⟩ := HR.out.ls
          obtain ⟨R, hR, hRX⟩ := HR.out.rl
          have hFR : xsOf F = xsOf R := hX.trans hRX.symm
          obtain ⟨bR, hadR, hbR, hc8, hat⟩ := hR.at_
          have HF := Lib.hid hF; clear hF
          have HRl := Lib.hid hR; clear hR
          have HFR := Lib.hid hFR; clear hFR hX hRX
          have HAT := Lib.hid hat; clear hat
          subst hadR
          go_wp2_with fail
          go_loopg [17, 108] 8 (fun gh v17 iv wz => ∃ (m : Nat), gh = 8 - m ∧ m ≤ 8 ∧ v17 = .int .i64 (lensN (R.take m)) ∧ iv = .int .i64 m ∧ Hid (RowKit.Below wc.heap.size wc wz))
          case atStart => exact ⟨0, rfl, by omega, rfl, rfl, RowKit.Below.refl _ _⟩
          case round =>
            obtain ⟨m, rfl, hm, rfl, rfl, HB⟩ := hrel
            have hle := lensN_le (F := R.take m) fun l hl => HRl.out.len l (List.mem_of_mem_take hl)
            have hl2 : (R.take m).length ≤ m := List.length_take_le _ _
            by_cases hm8 : m < 8
            · obtain ⟨lr, hlr⟩ := HRl.out.get hm8
              obtain ⟨lf, hlf⟩ := HF.out.get hm8
              have hxs : lf.xs = lr.xs := by
                have h1 := xsOf_getD hlf
                rw [HFR.out, xsOf_getD hlr] at h1
                exact h1.symm
              have hs := lensN_snoc hlr
              have hll := HRl.out.len lr (List.mem_of_getElem? hlr)
              have hsl := (HRl.out.of_below HB.out).sl lr (List.mem_of_getElem? hlr)
              have hcell := (HB.out.cell (p := ⟨bR, m, none⟩) hbR).trans (HAT.out m lr hlr)
              have hall := local_All g F m lf hlf wr (HF.out.of_below HB.out)
              have heq := fun (a5 : Option Addr) (c5 : Nat) (w5 : World) (h5 : Sl .u64 w5 a5 c5 lf.xs) (hb5 : RowKit.Below wr.heap.size wr w5) => slices_Equal_u64 a5 lr.a c5 lr.c lf.xs lr.xs w5 h5 (hsl.below hb5) (by rw [hxs]; omega) (by omega)
              rw [hxs] at hall heq
              simp only [beq_self_eq_true] at heq
              have HALL := Lib.hid hall; clear hall
              have HEQ := Lib.hid heq; clear heq
              have HS := Lib.hid hs; clear hs hlr hlf hsl
              go_wp2_with fail
              refine HALL.out.mono ?_
              rintro e w5 ⟨a5, c5, rfl, ho5, hb5⟩
              have HE5 := Lib.hid (HEQ.out a5 c5 w5 (own_rd ho5) hb5)
              have HB5 := Lib.hid (below_step HB.out HB.out.size hb5)
              clear ho5 hb5
              go_wp2_with fail
              refine HE5.out.mono ?_
              rintro e w6 ⟨rfl, q, rfl⟩
              go_wp2_with fail
              go_roundg (8 - (m + 1))
              case measure => omega
              case rel => exact ⟨m + 1, rfl, by omega, by rw [HS.out] <;> go_num, by go_num, (show Hid _ from below_drewN HB5.out q)⟩
            · obtain rfl : m = 8 := by omega
              have hlf : lensN (R.take 8) = lensN F := by rw [List.take_of_length_le (by rw [HRl.out.n8]; exact Nat.le_refl _), lensN_xs, lensN_xs, HFR.out]
              have hlen := local_Len g F wr (HF.out.of_below HB.out)
              rw [← hlf] at hlen
              have HLEN := Lib.hid hlen; clear hlen hlf
              generalize lensN (R.take 8) = nn at *
              go_wp2_with fail
              refine HLEN.out.mono ?_
              rintro e w5 ⟨rfl, hb5⟩
              have HB5 := Lib.hid (below_step HB.out HB.out.size hb5); clear hb5
              go_wp2_with fail
              refine (local_All_no g (-1) (by omega) _).mono ?_
              rintro e w6 ⟨rfl, rfl⟩
              go_wp2_with fail
              refine (local_All_no g 8 (by omega) _).mono ?_
              rintro e w6 ⟨rfl, rfl⟩
              go_wp2_with fail
              go_roundg (ls.length - (k + 1))
              case measure => omega
              case rel => exact ⟨k + 1, g, X, _, cd, rfl, by omega, rfl, rfl, by go_num, (show Hid _ from HR.out.of_below HB5.out)⟩
    · go_wp2
      go_ret
      exact ⟨rfl, HR.out.bl⟩
end Go.Proofs.YtonfaojmphidpaaGreatDoor
