/- The walk of layer 10's law FactoryPlays. -/
import Derived.Test.YtonfaojmphidpaaGreatDoorFacS
import Derived.Deep.CutRange
import Derived.Deep.CutBlock
namespace Go.Proofs.YtonfaojmphidpaaGreatDoor
open Go.RowKit Go.Maps
set_option linter.unusedVariables false
set_option linter.unusedSimpArgs false

/-- What is known between the pieces of a round. -/
structure FpIn (w wr : World) (g b bd : Nat) (xs ys : List Bool) (t : Nat) (S : List Int) : Prop where
  fc : ∃ a1 c1 a2 c2, Fc wr g b a1 c1 xs a2 c2 ys t S
  dz : Dz wr bd xs ys t S
  gw : w.heap.size ≤ g
  bw : w.heap.size ≤ b
  dw : w.heap.size ≤ bd
  bl : RowKit.Below w.heap.size w wr
section
variable {w wr w' : World} {g b bd : Nat} {xs ys xs' ys' : List Bool} {t t' : Nat} {S S' : List Int}
theorem Dz.of_below (h : Dz wr bd xs ys t S) (hb : RowKit.Below wr.heap.size wr w') : Dz w' bd xs ys t S := by
  obtain ⟨p1, p2, p3, hk, hz⟩ := h
  exact ⟨p1, p2, p3, hk.of_below hb, hz.below hb⟩
theorem FpIn.of_below (h : FpIn w wr g b bd xs ys t S) (hb : RowKit.Below wr.heap.size wr w') : FpIn w w' g b bd xs ys t S := by
  obtain ⟨a1, c1, a2, c2, hF⟩ := h.fc
  exact ⟨⟨a1, c1, a2, c2, hF.of_below hb⟩, h.dz.of_below hb, h.gw, h.bw, h.dw, below_step h.bl h.bl.size hb⟩
theorem Blk.keepFc {a1 a2 : Option Addr} {c1 c2 : Nat} (hF : Fc wr g b a1 c1 xs a2 c2 ys t S) {k : Nat} {ty : TypeId} {cs : Array Value} (hk : Blk wr k ty cs) (h0 : 0 < cs.size) (hty : 131 ≠ ty) (hg : Grew wr w' (fun k => k = g ∨ k = b)) : Blk w' k ty cs :=
  hk.grew hg (fun e => by
    rcases e with rfl | rfl
    · exact hF.blk.ne_type hk hty rfl
    · have h1 := hF.st.no_cell 0
      rw [hk.cell 0, Array.getElem?_eq_getElem h0] at h1; cases h1)
theorem Dz.keepFc {a1 a2 : Option Addr} {c1 c2 : Nat} (hF : Fc wr g b a1 c1 xs a2 c2 ys t S) (h : Dz wr bd xs' ys' t' S') (hg : Grew wr w' (fun k => k = g ∨ k = b)) : Dz w' bd xs' ys' t' S' := by
  obtain ⟨p1, p2, p3, hk, hz⟩ := h
  refine ⟨p1, p2, p3, hk.keepFc hF (by simp) (by decide) hg, hz.grew hg (fun k hk => ?_)⟩
  rcases hk with rfl | rfl
  · exact .inl ⟨_, _, hF.blk, Fc.nobool⟩
  · exact .inr hF.st.no_cell
theorem Fp_set {a1 a2 : Option Addr} {c1 c2 : Nat} (hF : Fc wr g b a1 c1 xs a2 c2 ys t S) {o1 o2 o3 : Option Addr} {m1 m2 m3 e1 e2 e3 : Nat} (hk : Blk wr bd 43 #[.slice o1 m1 e1, .slice o2 m2 e2, .slice o3 m3 e3]) {q1 q2 q3 : Value} (hz : Rz wr (.agg #[q1, q2, q3]) xs' ys' t' S') :
    Fc (((wr.setCell ⟨bd, 0, none⟩ q1).setCell ⟨bd, 1, none⟩ q2).setCell ⟨bd, 2, none⟩ q3) g b a1 c1 xs a2 c2 ys t S ∧ Dz (((wr.setCell ⟨bd, 0, none⟩ q1).setCell ⟨bd, 1, none⟩ q2).setCell ⟨bd, 2, none⟩ q3) bd xs' ys' t' S' ∧ Grew wr (((wr.setCell ⟨bd, 0, none⟩ q1).setCell ⟨bd, 1, none⟩ q2).setCell ⟨bd, 2, none⟩ q3) (· = bd) := by
  have hgr : Grew wr (((wr.setCell ⟨bd, 0, none⟩ q1).setCell ⟨bd, 1, none⟩ q2).setCell ⟨bd, 2, none⟩ q3) (· = bd) :=
    ((Grew.set wr ⟨bd, 0, none⟩ _).trans (Grew.set _ ⟨bd, 1, none⟩ _) (fun k _ hk => hk)).trans (Grew.set _ ⟨bd, 2, none⟩ _) (fun k _ hk => hk)
  refine ⟨hF.grew hgr (hF.blk.ne_type hk (by decide)) (fun e => ?_) (fun q hq h0 => hF.r1.apart hk (nob3 _ _ _ _ _ _ _ _ _) h0 q hq) (fun q hq h0 => hF.r2.apart hk (nob3 _ _ _ _ _ _ _ _ _) h0 q hq), ⟨q1, q2, q3, ((hk.put 0 q1).put 1 q2).put 2 q3, hz.grew hgr (fun k e => .inl ⟨_, _, e ▸ hk, nob3 _ _ _ _ _ _ _ _ _⟩)⟩, hgr⟩
  have h1 := hF.st.no_cell 0
  rw [e, hk.cell 0] at h1
  simp at h1
theorem clS_in {id : Int} (h : ∀ k ∈ S, 1 ≤ k ∧ k ≤ (t : Int)) : ∀ k ∈ S, k ≤ (t : Int) := fun k hk => (h k hk).2
end

set_option maxRecDepth 100000 in
set_option maxHeartbeats 16000000 in
theorem law_FactoryPlays (a : Option Addr) (len cap : Nat) (xs0 : List Bool) (a2 : Option Addr) (len2 cap2 : Nat) (ys0 : List Bool) (a3 : Option Addr) (len3 cap3 : Nat) (ls : List FAct) (w : World) (h1 : BoolsIn w a len cap xs0) (h2 : BoolsIn w a2 len2 cap2 ys0) (h3 : FActsIn w a3 len3 ls) :
    Calls Tryz.prog 4 #[.slice a len cap, .slice a2 len2 cap2, .slice a3 len3 cap3] w fun e w' => e = .returned (.bool true) ∧ RowKit.Below w.heap.size w w' := by
  obtain ⟨rfl, hn1, hs1⟩ := h1
  obtain ⟨rfl, hn2, hs2⟩ := h2
  obtain ⟨rfl, hn3, hwf3, hs3⟩ := h3
  by_cases hbig : 100 < xs0.length
  · clear hs1 hs2 hwf3 hs3
    go_enter Tryz.func4, Tryz.ntmps4
    go_wp2_with (go_at_call 14; refine (law10_awake _).mono ?_; rintro e w' ⟨rfl, hb⟩)
    go_ret
    exact ⟨rfl, hb⟩
  by_cases hbig2 : 100 < ys0.length
  · clear hs1 hs2 hwf3 hs3
    go_enter Tryz.func4, Tryz.ntmps4
    go_wp2_with (go_at_call 14; refine (law10_awake _).mono ?_; rintro e w' ⟨rfl, hb⟩)
    go_ret
    exact ⟨rfl, hb⟩
  by_cases hbig3 : 100 < ls.length
  · clear hs1 hs2 hwf3 hs3
    go_enter Tryz.func4, Tryz.ntmps4
    go_wp2_with (go_at_call 14; refine (law10_awake _).mono ?_; rintro e w' ⟨rfl, hb⟩)
    go_ret
    exact ⟨rfl, hb⟩
  have HWF := Lib.hid hwf3; clear hwf3
  have HS1 := Lib.hid hs1; clear hs1
  have HS2 := Lib.hid hs2; clear hs2
  have HS3 := Lib.hid hs3; clear hs3
  go_enter Tryz.func4, Tryz.ntmps4
  go_wp2_with fail
  refine (law10_awake _).mono ?_
  rintro e w1 ⟨rfl, hb1⟩
  have hnew := factory_New a cap xs0 a2 cap2 ys0 w1 (HS1.out.below hb1) (HS2.out.below hb1) (by omega) (by omega)
  have HNEW := Lib.hid hnew; clear hnew
  have HB1 := Lib.hid hb1; clear hb1
  go_wp2_with fail
  refine HNEW.out.mono ?_
  rintro e w2 ⟨g, b, a1, c1, a2', c2, rfl, hF, hgw, hbw, hb2⟩
  have hB2 := below_step HB1.out HB1.out.size hb2
  have hw1s := HB1.out.size
  have hal := (RowKit.Below.refl w2.heap.size w2).alloc (Nat.le_refl _) (.cells #[.slice a xs0.length cap, .slice a2 ys0.length cap2, .slice none 0 0] 43)
  have hkd := Blk.new w2 43 #[.slice a xs0.length cap, .slice a2 ys0.length cap2, .slice none 0 0]
  have hBa := below_step hB2 hB2.size hal
  have HR : Hid (FpIn w (w2.alloc (.cells #[.slice a xs0.length cap, .slice a2 ys0.length cap2, .slice none 0 0] 43)) g b w2.heap.size xs0 ys0 0 []) := ⟨⟨a1, c1, a2', c2, hF.of_below hal⟩, ⟨_, _, _, hkd, a, cap, a2, cap2, none, 0, [], rfl, HS1.out.below hBa, HS2.out.below hBa, Bs.nil_ _ _ _ (fun _ => rfl), rfl, fun k hk => absurd hk (by omega)⟩, by omega, by omega, hB2.size, hBa⟩
  have hlx : xs0.length ≤ 100 := by omega
  have hly : ys0.length ≤ 100 := by omega
  clear hF hB2 hal hkd hBa hb2 HNEW hgw hbw hw1s
  go_wp2_with fail
  generalize w2.alloc (.cells #[.slice a xs0.length cap, .slice a2 ys0.length cap2, .slice none 0 0] 43) = w3 at *
  generalize w2.heap.size = bd at *
  go_loopg [7, 48] ls.length (fun gh v7 iv wr => ∃ (k g b : Nat) (xs ys : List Bool) (t : Nat) (S : List Int), gh = ls.length - k ∧ k ≤ ls.length ∧ v7 = .pointer (some ⟨g, 0, none⟩) ∧ iv = .int .i64 k ∧ xs.length ≤ 100 ∧ ys.length ≤ 100 ∧ t ≤ k ∧ S.length ≤ k ∧ Hid (FpIn w wr g b bd xs ys t S))
  case atStart => exact ⟨0, g, b, xs0, ys0, 0, [], rfl, by omega, rfl, rfl, hlx, hly, by omega, by simp, HR⟩
  case round =>
    clear HR
    obtain ⟨k, g, b, xs, ys, t, S, rfl, hk, rfl, rfl, hxl, hyl, htk, hSk, HR⟩ := hrel
    by_cases hlt : k < ls.length
    · obtain ⟨b0, off, rfl, hbs, hc⟩ := HS3.out (by omega)
      have c0 := (HR.out.bl.cell (p := ⟨b0, off + k * 2, none⟩) hbs).trans (hc k hlt).1
      have c1' := (HR.out.bl.cell (p := ⟨b0, off + k * 2 + 1, none⟩) hbs).trans (hc k hlt).2
      clear hc
      have hxr := HWF.out (ls.getD k default) (getD_mem hlt)
      generalize ls.getD k default = x at *
      obtain ⟨d, id⟩ := x
      dsimp only at *
      obtain ⟨hd0, hd1, hi0, hi1⟩ := hxr
      have hid64 : In64 id := ⟨hi0, hi1⟩
      have HI := Lib.hid hid64; clear hid64
      have hal := (RowKit.Below.refl wr.heap.size wr).alloc (Nat.le_refl _) (.cells #[.int .u8 d, .int .u64 id] 30)
      have HR1 := Lib.hid (HR.out.of_below hal)
      have HA := Lib.hid (Blk.new wr 30 #[.int .u8 d, .int .u64 id])
      clear hal
      go_upto_if 54 with fail
      generalize wr.alloc (.cells #[.int .u8 d, .int .u64 id] 30) = W at *
      clear c0 c1' HR hbs
      generalize wr.heap.size = av at *
      go_cut [7, 48] from 48 to 134 (fun v7 iv wc => iv = .int .i64 k ∧ ∃ (g b : Nat), v7 = .pointer (some ⟨g, 0, none⟩) ∧ Hid (FpIn w wc g b bd xs ys t S) ∧ Hid (Blk wc av 30 #[.int .u8 d, .int .u64 id]))
      case first =>
        by_cases hbit : 128 ≤ d
        · obtain ⟨f1, f2, f3, f4, hF⟩ := HR1.out.fc
          have hcl := factory_Clone g b f1 f2 xs f3 f4 ys t S W hF
          have HCL := Lib.hid hcl; clear hcl
          have HF := Lib.hid hF; clear hF
          go_wp2_with fail
          refine HCL.out.mono ?_
          rintro e w2 ⟨g2, b2, p1, p2, p3, p4, rfl, hF2, hg2, hb2, hq1, hq2, hbel⟩
          have hO := HF.out.of_below hbel
          have hop := factory_Open_sum hO (by omega)
          have HOP := Lib.hid hop; clear hop
          have HF2 := Lib.hid hF2; clear hF2
          have HD2 := Lib.hid (HR1.out.dz.of_below hbel)
          have HA2 := Lib.hid (HA.out.of_below hbel)
          have HB2 := Lib.hid (below_step HR1.out.bl HR1.out.bl.size hbel)
          have HO := Lib.hid hO; clear hO hbel HCL
          have HQ1 := Lib.hid hq1; clear hq1
          have HQ2 := Lib.hid hq2; clear hq2
          go_wp2_with fail
          refine HOP.out.mono ?_
          rintro e w3 ⟨rfl, f5, f6, f7, f8, hO3, hg3⟩
          have hclz := factory_Close_sum 1 ⟨by omega, by omega⟩ hO3 (by omega)
          have HCLZ := Lib.hid hclz; clear hclz
          have HO3 := Lib.hid hO3; clear hO3
          have HG3 := Lib.hid hg3; clear hg3 HOP
          go_wp2_with fail
          refine HCLZ.out.mono ?_
          rintro e w4 ⟨rfl, f9, fa, fb, fd, hO4, hg4⟩
          have hgl := HF.out.blk.lt
          have hbl := HF.out.st.lt
          have nk : ∀ z, W.heap.size ≤ z → ¬ (z = g ∨ z = b) := fun z hz e => by omega
          have F4 := (HF2.out.grew HG3.out (nk _ hg2) (nk _ hb2) (fun q hq _ => nk _ (HQ1.out q hq)) (fun q hq _ => nk _ (HQ2.out q hq))).grew hg4 (nk _ hg2) (nk _ hb2) (fun q hq _ => nk _ (HQ1.out q hq)) (fun q hq _ => nk _ (HQ2.out q hq))
          have D4 := (HD2.out.keepFc HO.out HG3.out).keepFc HO3.out hg4
          have A4 := (HA2.out.keepFc HO.out (by simp) (by decide) HG3.out).keepFc HO3.out (by simp) (by decide) hg4
          have nb : ∀ z, (z = g ∨ z = b) → w.heap.size ≤ z := fun z hz => by
            rcases hz with rfl | rfl
            · exact HR1.out.gw
            · exact HR1.out.bw
          have B4 := hg4.below (HG3.out.below HB2.out (fun z _ hz => nb z hz) HB2.out.size) (fun z _ hz => nb z hz) (HG3.out.below HB2.out (fun z _ hz => nb z hz) HB2.out.size).size
          have hws := HR1.out.bl.size
          have R4 := Lib.hid (show FpIn w w4 g2 b2 bd xs ys t S from ⟨⟨p1, p2, p3, p4, F4⟩, D4, by omega, by omega, HR1.out.dw, B4⟩)
          have HA4 := Lib.hid A4
          clear F4 D4 A4 B4 nb nk hO4 hg4
          go_wp2_with fail
          go_meet
          exact ⟨rfl, g2, b2, rfl, R4, HA4⟩
        · have hbit' : decide (128 ≤ d) = false := decide_eq_false hbit
          go_wp2
          go_meet
          exact ⟨rfl, g, b, rfl, HR1, HA⟩
      case rest =>
        clear HR1 HA
        obtain ⟨rfl, g, b, rfl, HR, HA⟩ := hcut
        have x0 := HA.out.cell 0
        have x1 := HA.out.cell 1
        have xl := HA.out.lt
        simp only [List.getElem?_toArray, List.getElem?_cons_zero, List.getElem?_cons_succ] at x0 x1
        obtain ⟨f1, f2, f3, f4, hF⟩ := HR.out.fc
        have HF := Lib.hid hF; clear hF
        go_upto_block 2 with fail
        go_cut [48] from 48 to 134 (fun iv wx => iv = .int .i64 k ∧ ∃ (xs' ys' : List Bool) (t' : Nat) (S' : List Int), xs'.length ≤ 100 ∧ ys'.length ≤ 100 ∧ t' ≤ k + 1 ∧ S'.length ≤ k + 1 ∧ Hid (FpIn w wx g b bd xs' ys' t' S') ∧ Hid (Blk wx av 30 #[.int .u8 d, .int .u64 id]))
        case first =>
          by_cases hsw2 : d % 4 = 2
          · have hf := factory_Prove_sum id HI.out HF.out
            obtain ⟨p1, p2, p3, hkd0, hz0⟩ := HR.out.dz
            have HKD0 := Lib.hid hkd0; clear hkd0 hz0
            have hln : (prY ys t S id).length ≤ ys.length := prY_len ys t S id
            generalize hE0 : prB ys t S id = v1 at hf hln
            have HE0 := Lib.hid hE0; clear hE0
            generalize hE1 : knownF t S id 6 = v2 at hf hln
            have HE1 := Lib.hid hE1; clear hE1
            generalize hE2 : prY ys t S id = Y at hf hln
            have HE2 := Lib.hid hE2; clear hE2
            have HFF := Lib.hid hf; clear hf
            go_wp2_with fail
            refine HFF.out.mono ?_
            rintro e w3 ⟨rfl, f5, f6, f7, f8, hF3, hg3⟩
            have hd3 := HR.out.dz.keepFc HF.out hg3
            have hA3 := HA.out.keepFc HF.out (by simp) (by decide) hg3
            have r1 := hA3.cell 1
            have rl := hA3.lt
            simp only [List.getElem?_toArray, List.getElem?_cons_zero, List.getElem?_cons_succ] at r1
            obtain ⟨o1, o2, o3, hkd, hz⟩ := hd3
            have hr := ref10_Prove_sum id HI.out hz (by omega) (by omega)
            rw [HE0.out, HE1.out, HE2.out] at hr
            have HRF := Lib.hid hr; clear hr
            obtain ⟨z1, z2, z3, z4, z5, z6, z7, hzv, -⟩ := hz
            simp only [Value.agg.injEq, Array.mk.injEq, List.cons.injEq, and_true] at hzv
            obtain ⟨rfl, rfl, rfl⟩ := hzv
            have y0 := hkd.cell 0
            have y1 := hkd.cell 1
            have y2 := hkd.cell 2
            have yl := hkd.lt
            simp only [List.getElem?_toArray, List.getElem?_cons_zero, List.getElem?_cons_succ] at y0 y1 y2
            have B3 := Lib.hid (hg3.below HR.out.bl (fun z _ hz => by
              rcases hz with rfl | rfl
              · exact HR.out.gw
              · exact HR.out.bw) HR.out.bl.size)
            have HF3 := Lib.hid hF3; clear hF3
            have HKD := Lib.hid hkd; clear hkd
            have HA3 := Lib.hid hA3; clear hA3 hg3 HFF
            go_wp2_with fail
            refine HRF.out.mono ?_
            rintro e w4 ⟨v', rfl, hz4, hb4⟩
            obtain ⟨q1, q2, q3, q4, q5, q6, sh4, rfl, hz4'⟩ := hz4
            have hrz : Rz w4 (.agg #[.slice q1 xs.length q2, .slice q3 Y.length q4, .slice q5 sh4.length q6]) xs Y t S := ⟨q1, q2, q3, q4, q5, q6, sh4, rfl, hz4'⟩
            have hkd4 := HKD.out.of_below hb4
            obtain ⟨F4, D4, G4⟩ := Fp_set (HF3.out.of_below hb4) hkd4 hrz
            have A4 := Blk.grew (HA3.out.of_below hb4) G4 (fun e => hkd4.ne_type (HA3.out.of_below hb4) (by decide) e.symm)
            have B4 := G4.below (below_step B3.out B3.out.size hb4) (fun z _ hz => by rw [hz]; exact HR.out.dw) (below_step B3.out B3.out.size hb4).size
            have u0 := hkd4.frozen 0
            have u1 := hkd4.frozen 1
            have u2 := hkd4.frozen 2
            have t0 := hkd4.cell 0
            have t1 := hkd4.cell 1
            have t2' := hkd4.cell 2
            have ul := hkd4.lt
            simp only [List.getElem?_toArray, List.getElem?_cons_zero, List.getElem?_cons_succ] at t0 t1 t2'
            have hal := fun (V : World) => (RowKit.Below.refl V.heap.size V).alloc (Nat.le_refl _) (.cells #[.slice q1 xs.length q2, .slice q3 Y.length q4, .slice q5 sh4.length q6] 43)
            have F5' := Lib.hid (F4.of_below (hal _))
            have D5' := Lib.hid (D4.of_below (hal _))
            have A5 := Lib.hid (A4.of_below (hal _))
            have B5 := Lib.hid (below_step B4 B4.size (hal _))
            clear F4 D4 G4 A4 B4 hrz hal hb4 hz4' hkd4 HRF
            go_wp2_with fail
            go_meet
            exact ⟨rfl, xs, Y, t, S, by omega, by omega, by omega, by omega, (show Hid _ from ⟨⟨f5, f6, f7, f8, F5'.out⟩, D5'.out, HR.out.gw, HR.out.bw, HR.out.dw, B5.out⟩), A5⟩
          · have h2 : (d % 4 == 2) = false := by simpa using hsw2
            have H2 := Lib.hid hsw2; clear hsw2
            by_cases hsw3 : d % 4 = 3
            · have hf := factory_Close_sum id HI.out HF.out (by omega)
              obtain ⟨p1, p2, p3, hkd0, hz0⟩ := HR.out.dz
              have HKD0 := Lib.hid hkd0; clear hkd0 hz0
              have hln : (clS t S id).length ≤ S.length + 1 := clS_len t S id
              generalize hE0 : knownF t S id 10 = v1 at hf hln
              have HE0 := Lib.hid hE0; clear hE0
              generalize hE1 : clS t S id = S2 at hf hln
              have HE1 := Lib.hid hE1; clear hE1
              have HFF := Lib.hid hf; clear hf
              go_wp2_with fail
              refine HFF.out.mono ?_
              rintro e w3 ⟨rfl, f5, f6, f7, f8, hF3, hg3⟩
              have hd3 := HR.out.dz.keepFc HF.out hg3
              have hA3 := HA.out.keepFc HF.out (by simp) (by decide) hg3
              have r1 := hA3.cell 1
              have rl := hA3.lt
              simp only [List.getElem?_toArray, List.getElem?_cons_zero, List.getElem?_cons_succ] at r1
              obtain ⟨o1, o2, o3, hkd, hz⟩ := hd3
              have hr := ref10_Close_sum id HI.out hz (by omega)
              rw [HE0.out, HE1.out] at hr
              have HRF := Lib.hid hr; clear hr
              obtain ⟨z1, z2, z3, z4, z5, z6, z7, hzv, -⟩ := hz
              simp only [Value.agg.injEq, Array.mk.injEq, List.cons.injEq, and_true] at hzv
              obtain ⟨rfl, rfl, rfl⟩ := hzv
              have y0 := hkd.cell 0
              have y1 := hkd.cell 1
              have y2 := hkd.cell 2
              have yl := hkd.lt
              simp only [List.getElem?_toArray, List.getElem?_cons_zero, List.getElem?_cons_succ] at y0 y1 y2
              have B3 := Lib.hid (hg3.below HR.out.bl (fun z _ hz => by
                rcases hz with rfl | rfl
                · exact HR.out.gw
                · exact HR.out.bw) HR.out.bl.size)
              have HF3 := Lib.hid hF3; clear hF3
              have HKD := Lib.hid hkd; clear hkd
              have HA3 := Lib.hid hA3; clear hA3 hg3 HFF
              go_wp2_with fail
              refine HRF.out.mono ?_
              rintro e w4 ⟨v', rfl, hz4, hb4⟩
              obtain ⟨q1, q2, q3, q4, q5, q6, sh4, rfl, hz4'⟩ := hz4
              have hrz : Rz w4 (.agg #[.slice q1 xs.length q2, .slice q3 ys.length q4, .slice q5 sh4.length q6]) xs ys t S2 := ⟨q1, q2, q3, q4, q5, q6, sh4, rfl, hz4'⟩
              have hkd4 := HKD.out.of_below hb4
              obtain ⟨F4, D4, G4⟩ := Fp_set (HF3.out.of_below hb4) hkd4 hrz
              have A4 := Blk.grew (HA3.out.of_below hb4) G4 (fun e => hkd4.ne_type (HA3.out.of_below hb4) (by decide) e.symm)
              have B4 := G4.below (below_step B3.out B3.out.size hb4) (fun z _ hz => by rw [hz]; exact HR.out.dw) (below_step B3.out B3.out.size hb4).size
              have u0 := hkd4.frozen 0
              have u1 := hkd4.frozen 1
              have u2 := hkd4.frozen 2
              have t0 := hkd4.cell 0
              have t1 := hkd4.cell 1
              have t2' := hkd4.cell 2
              have ul := hkd4.lt
              simp only [List.getElem?_toArray, List.getElem?_cons_zero, List.getElem?_cons_succ] at t0 t1 t2'
              have hal := fun (V : World) => (RowKit.Below.refl V.heap.size V).alloc (Nat.le_refl _) (.cells #[.slice q1 xs.length q2, .slice q3 ys.length q4, .slice q5 sh4.length q6] 43)
              have F5' := Lib.hid (F4.of_below (hal _))
              have D5' := Lib.hid (D4.of_below (hal _))
              have A5 := Lib.hid (A4.of_below (hal _))
              have B5 := Lib.hid (below_step B4 B4.size (hal _))
              clear F4 D4 G4 A4 B4 hrz hal hb4 hz4' hkd4 HRF
              go_wp2_with fail
              go_meet
              exact ⟨rfl, xs, ys, t, S2, by omega, by omega, by omega, by omega, (show Hid _ from ⟨⟨f5, f6, f7, f8, F5'.out⟩, D5'.out, HR.out.gw, HR.out.bw, HR.out.dw, B5.out⟩), A5⟩
            · have h3 : (d % 4 == 3) = false := by simpa using hsw3
              have H3 := Lib.hid hsw3; clear hsw3
              have hf := factory_Open_sum HF.out (by omega)
              obtain ⟨p1, p2, p3, hkd0, hz0⟩ := HR.out.dz
              have HKD0 := Lib.hid hkd0; clear hkd0 hz0
              have hln : opT xs t ≤ t + 1 := opT_le xs t
              have hln2 : xs.tail.length ≤ xs.length := by simp
              generalize hE0 : opI xs t = v1 at hf hln hln2
              have HE0 := Lib.hid hE0; clear hE0
              generalize hE1 : nx xs = v2 at hf hln hln2
              have HE1 := Lib.hid hE1; clear hE1
              generalize hE2 : opT xs t = t2 at hf hln hln2
              have HE2 := Lib.hid hE2; clear hE2
              generalize hE3 : xs.tail = X at hf hln hln2
              have HE3 := Lib.hid hE3; clear hE3
              have HFF := Lib.hid hf; clear hf
              go_wp2_with fail
              refine HFF.out.mono ?_
              rintro e w3 ⟨rfl, f5, f6, f7, f8, hF3, hg3⟩
              have hd3 := HR.out.dz.keepFc HF.out hg3
              have hA3 := HA.out.keepFc HF.out (by simp) (by decide) hg3
              have r1 := hA3.cell 1
              have rl := hA3.lt
              simp only [List.getElem?_toArray, List.getElem?_cons_zero, List.getElem?_cons_succ] at r1
              obtain ⟨o1, o2, o3, hkd, hz⟩ := hd3
              have hr := ref10_Open_sum hz (by omega) (by omega) (fun k hk => (HF.out.in_ k hk).2)
              rw [HE0.out, HE1.out, HE2.out, HE3.out] at hr
              have HRF := Lib.hid hr; clear hr
              obtain ⟨z1, z2, z3, z4, z5, z6, z7, hzv, -⟩ := hz
              simp only [Value.agg.injEq, Array.mk.injEq, List.cons.injEq, and_true] at hzv
              obtain ⟨rfl, rfl, rfl⟩ := hzv
              have y0 := hkd.cell 0
              have y1 := hkd.cell 1
              have y2 := hkd.cell 2
              have yl := hkd.lt
              simp only [List.getElem?_toArray, List.getElem?_cons_zero, List.getElem?_cons_succ] at y0 y1 y2
              have B3 := Lib.hid (hg3.below HR.out.bl (fun z _ hz => by
                rcases hz with rfl | rfl
                · exact HR.out.gw
                · exact HR.out.bw) HR.out.bl.size)
              have HF3 := Lib.hid hF3; clear hF3
              have HKD := Lib.hid hkd; clear hkd
              have HA3 := Lib.hid hA3; clear hA3 hg3 HFF
              go_wp2_with fail
              refine HRF.out.mono ?_
              rintro e w4 ⟨v', rfl, hz4, hb4⟩
              obtain ⟨q1, q2, q3, q4, q5, q6, sh4, rfl, hz4'⟩ := hz4
              have hrz : Rz w4 (.agg #[.slice q1 X.length q2, .slice q3 ys.length q4, .slice q5 sh4.length q6]) X ys t2 S := ⟨q1, q2, q3, q4, q5, q6, sh4, rfl, hz4'⟩
              have hkd4 := HKD.out.of_below hb4
              obtain ⟨F4, D4, G4⟩ := Fp_set (HF3.out.of_below hb4) hkd4 hrz
              have A4 := Blk.grew (HA3.out.of_below hb4) G4 (fun e => hkd4.ne_type (HA3.out.of_below hb4) (by decide) e.symm)
              have B4 := G4.below (below_step B3.out B3.out.size hb4) (fun z _ hz => by rw [hz]; exact HR.out.dw) (below_step B3.out B3.out.size hb4).size
              have u0 := hkd4.frozen 0
              have u1 := hkd4.frozen 1
              have u2 := hkd4.frozen 2
              have t0 := hkd4.cell 0
              have t1 := hkd4.cell 1
              have t2' := hkd4.cell 2
              have ul := hkd4.lt
              simp only [List.getElem?_toArray, List.getElem?_cons_zero, List.getElem?_cons_succ] at t0 t1 t2'
              have hal := fun (V : World) => (RowKit.Below.refl V.heap.size V).alloc (Nat.le_refl _) (.cells #[.slice q1 X.length q2, .slice q3 ys.length q4, .slice q5 sh4.length q6] 43)
              have F5' := Lib.hid (F4.of_below (hal _))
              have D5' := Lib.hid (D4.of_below (hal _))
              have A5 := Lib.hid (A4.of_below (hal _))
              have B5 := Lib.hid (below_step B4 B4.size (hal _))
              clear F4 D4 G4 A4 B4 hrz hal hb4 hz4' hkd4 HRF
              go_wp2_with fail
              go_meet
              exact ⟨rfl, X, ys, t2, S, by omega, by omega, by omega, by omega, (show Hid _ from ⟨⟨f5, f6, f7, f8, F5'.out⟩, D5'.out, HR.out.gw, HR.out.bw, HR.out.dw, B5.out⟩), A5⟩
        case rest =>
          clear HR HA HF x0 x1 xl hxl hyl htk hSk
          obtain ⟨rfl, xs', ys', t', S', hxl, hyl, htk, hSk, HR, HA⟩ := hcut
          have x1 := HA.out.cell 1
          have xl := HA.out.lt
          simp only [List.getElem?_toArray, List.getElem?_cons_zero, List.getElem?_cons_succ] at x1
          obtain ⟨f1, f2, f3, f4, hF⟩ := HR.out.fc
          obtain ⟨p1, p2, p3, hkd, hz⟩ := HR.out.dz
          have htold := law10_told g b f1 f2 xs' f3 f4 ys' t' S' _ xs' ys' id _ hF hz HI.out (by omega)
          have HTOLD := Lib.hid htold; clear htold
          have y0 := hkd.cell 0
          have y1 := hkd.cell 1
          have y2 := hkd.cell 2
          have yl := hkd.lt
          simp only [List.getElem?_toArray, List.getElem?_cons_zero, List.getElem?_cons_succ] at y0 y1 y2
          clear hkd hz hF
          go_wp2_with fail
          refine HTOLD.out.mono ?_
          rintro e w5 ⟨rfl, hb5⟩
          have HB5 := Lib.hid hb5; clear hb5
          go_wp2_with fail
          go_roundg (ls.length - (k + 1))
          case measure => omega
          case rel => exact ⟨k + 1, g, b, xs', ys', t', S', rfl, by omega, rfl, by go_num, hxl, hyl, htk, hSk, (show Hid _ from HR.out.of_below HB5.out)⟩
    · go_wp2
      go_ret
      exact ⟨rfl, HR.out.bl⟩
end Go.Proofs.YtonfaojmphidpaaGreatDoor
