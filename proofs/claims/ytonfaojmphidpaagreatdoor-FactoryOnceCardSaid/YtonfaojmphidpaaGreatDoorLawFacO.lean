/- The walk of layer 10's law FactoryOnce. -/
import Derived.Test.YtonfaojmphidpaaGreatDoorFacP
namespace Go.Proofs.YtonfaojmphidpaaGreatDoor
open Go.RowKit Go.Maps
set_option linter.unusedVariables false
set_option linter.unusedSimpArgs false

/-- What is known at a round's head. -/
structure FoRel (w wr : World) (g b mo mc : Nat) (k : Nat) (xs : List Bool) (t : Nat) (S : List Int) (a1 : Option Addr) (c1 : Nat) (a2 : Option Addr) (c2 : Nat) : Prop where
  fc : Fc wr g b a1 c1 xs a2 c2 [] t S
  so : St wr mo (upL t)
  sc : St wr mc S
  tk : t ≤ k
  sk : S.length ≤ k
  bl : RowKit.Below w.heap.size w wr

set_option maxRecDepth 100000 in
set_option maxHeartbeats 8000000 in
theorem law_FactoryOnce (a : Option Addr) (len cap : Nat) (xs0 : List Bool) (a2 : Option Addr) (len2 cap2 : Nat) (ls : List FAct) (w : World) (h1 : BoolsIn w a len cap xs0) (h2 : FActsIn w a2 len2 ls) :
    Calls Tryz.prog 3 #[.slice a len cap, .slice a2 len2 cap2] w fun e w' => e = .returned (.bool true) ∧ RowKit.Below w.heap.size w w' := by
  obtain ⟨rfl, hn1, hs1⟩ := h1
  obtain ⟨rfl, hn2, hwf2, hs2⟩ := h2
  by_cases hbig : 100 < xs0.length
  · clear hs1 hwf2 hs2
    go_enter Tryz.func3, Tryz.ntmps3
    go_wp2_with (go_at_call 14; refine (law10_awake _).mono ?_; rintro e w' ⟨rfl, hb⟩)
    go_ret
    exact ⟨rfl, hb⟩
  by_cases hbig2 : 100 < ls.length
  · clear hs1 hwf2 hs2
    go_enter Tryz.func3, Tryz.ntmps3
    go_wp2_with (go_at_call 14; refine (law10_awake _).mono ?_; rintro e w' ⟨rfl, hb⟩)
    go_ret
    exact ⟨rfl, hb⟩
  have HWF2 := Lib.hid hwf2; clear hwf2
  have HS1 := Lib.hid hs1; clear hs1
  have HS2 := Lib.hid hs2; clear hs2
  have hmm := @run_makeMap Tryz.prog
  go_enter Tryz.func3, Tryz.ntmps3
  go_wp2_with fail
  refine (law10_awake _).mono ?_
  rintro e w1 ⟨rfl, hb1⟩
  have hnew := factory_New a cap xs0 none 0 [] w1 (HS1.out.below hb1) (Bs.nil_ _ _ _ (fun _ => rfl)) (by omega) (by decide)
  have HNEW := Lib.hid hnew; clear hnew
  have HB1 := Lib.hid hb1; clear hb1
  go_wp2_with fail
  refine HNEW.out.mono ?_
  rintro e w2 ⟨g, b, a1, c1, a2', c2, rfl, hF, hgw, hbw, hb2⟩
  have hw1s := HB1.out.size
  have hgw' : w.heap.size ≤ g := by omega
  have hbw' : w.heap.size ≤ b := by omega
  have hB2 := below_step HB1.out HB1.out.size hb2
  have hgl := hF.blk.lt
  have hbl := hF.st.lt
  have hm1 := (Below.refl w2.heap.size w2).alloc (Nat.le_refl _) (.map #[] 0)
  have hm2 := hm1.alloc hm1.size (.map #[] 0)
  have hso := (St.made w2).of_below ((Below.refl _ (w2.alloc (.map #[] 0))).alloc (Nat.le_refl _) (.map #[] 0))
  have hsc := St.made (w2.alloc (.map #[] 0))
  rw [size_alloc] at hsc
  have hF3 := hF.of_below hm2
  have hB3 := below_step hB2 hB2.size hm2
  have HR : Hid (FoRel w ((w2.alloc (.map #[] 0)).alloc (.map #[] 0)) g b w2.heap.size (w2.heap.size + 1) 0 xs0 0 [] a1 c1 a2' c2) := ⟨hF3, hso, hsc, by omega, by simp, hB3⟩
  have hws2 := hB2.size
  clear hF hB2 hm1 hm2 hso hsc hF3 hB3 hb2 HNEW
  obtain ⟨mo, hmo⟩ : ∃ mo, mo = w2.heap.size := ⟨_, rfl⟩
  have hmow : w.heap.size ≤ mo := by omega
  have hgmo : g < mo := by omega
  have hbmo : b < mo := by omega
  go_wp2_with fail
  rw [← hmo] at HR
  simp only [← hmo]
  clear hmo hgl hbl hws2
  clear hmm
  go_loopg [32] ls.length (fun gh iv wr => ∃ (k : Nat) (xs : List Bool) (t : Nat) (S : List Int) (a1 : Option Addr) (c1 : Nat) (a2 : Option Addr) (c2 : Nat), gh = ls.length - k ∧ k ≤ ls.length ∧ iv = .int .i64 k ∧ Hid (FoRel w wr g b mo (mo + 1) k xs t S a1 c1 a2 c2))
  case atStart => exact ⟨0, xs0, 0, [], a1, c1, a2', c2, rfl, by omega, rfl, HR⟩
  case round =>
    clear HR
    obtain ⟨k, xs, t, S, a1, c1, a2', c2, rfl, hk, rfl, HR⟩ := hrel
    have htk := HR.out.tk
    have hsk := HR.out.sk
    have hmol := HR.out.so.lt
    have hmcl := HR.out.sc.lt
    by_cases hlt : k < ls.length
    · obtain ⟨b0, off, rfl, hbs, hc⟩ := HS2.out (by omega)
      have c0 := (HR.out.bl.cell (p := ⟨b0, off + k * 2, none⟩) hbs).trans (hc k hlt).1
      have c1' := (HR.out.bl.cell (p := ⟨b0, off + k * 2 + 1, none⟩) hbs).trans (hc k hlt).2
      clear hc
      have hxr := HWF2.out (ls.getD k default) (getD_mem hlt)
      generalize ls.getD k default = x at *
      obtain ⟨d, id⟩ := x
      dsimp only at *
      obtain ⟨hd0, hd1, hi0, hi1⟩ := hxr
      have hal := (Below.refl wr.heap.size wr).alloc (Nat.le_refl _) (.cells #[.int .u8 d, .int .u64 id] 30)
      have hkb := Blk.new wr 30 #[.int .u8 d, .int .u64 id]
      have HF := Lib.hid (HR.out.fc.of_below hal)
      have HSO := Lib.hid (HR.out.so.of_below hal)
      have HSC := Lib.hid (HR.out.sc.of_below hal)
      have HBL := Lib.hid (HR.out.bl.alloc HR.out.bl.size (.cells #[.int .u8 d, .int .u64 id] 30))
      have HKB := Lib.hid hkb; clear hkb hal
      by_cases hd : d % 4 < 2
      · have hop := factory_Open g b a1 c1 xs a2' c2 [] t S _ HF.out (by omega)
        cases hnx : nx xs with
        | true =>
          rw [hnx] at hop
          simp only [if_true] at hop
          have HOP := Lib.hid hop; clear hop
          have HNX := Lib.hid hnx; clear hnx
          go_wp2_with fail
          refine HOP.out.mono ?_
          rintro e w5 ⟨rfl, hfo⟩
          obtain ⟨a1n, c1n, hF5, hg5⟩ := hfo
          rw [HNX.out, if_pos rfl] at hF5
          have hso5 := HSO.out.grew hg5 (by omega)
          have hsc5 := HSC.out.grew hg5 (by omega)
          have hbl5 := hg5.below HBL.out (fun z _ hz => by rw [hz]; exact hgw') HBL.out.size
          have hin : In64 ((t : Int) + 1) := ⟨by omega, by omega⟩
          have hlk := hso5.look hin
          have hnot : ((t : Int) + 1) ∉ upL t := fun h => by have := (mem_upL.1 h).2; omega
          rw [decide_eq_false hnot] at hlk
          have hkey : keyOf Tryz.prog 28 (.int .u64 ((t : Int) + 1)) = some (K64 ((t : Int) + 1)) := keyOf_int_mk Tryz.underlying28 hin.wf
          obtain ⟨DS, hownS, hTS⟩ := hso5
          have hul : (upL t).length < maxLen := by rw [upL_length]; unfold maxLen; omega
          have hno : ∀ off, w5.cell? ⟨mo, off, none⟩ = none := fun off => own_no_cell hownS off
          have HNO := Lib.hid hno; clear hno
          have HTS := Lib.hid hTS; clear hTS
          have HNOT := Lib.hid hnot; clear hnot
          have HF5 := Lib.hid hF5; clear hF5
          have HSC5 := Lib.hid hsc5; clear hsc5
          have HBL5 := Lib.hid hbl5; clear hbl5 hg5
          go_wp2_with (at_mapUpdate; refine wpList_mapUpdate_in _ rfl _ _ _ 27 rfl 28 4 lawU Tryz.underlying27 _ mo _ DS rfl hownS hul _ _ _ rfl rfl hkey _ [] (plainElem_bool Tryz.underlying4 true) ?_; intro w6 hown6 hturn6)
          have hg6 := hturn6.grown
          have q6 := St.put HTS.out HNOT.out hown6
          go_roundg (ls.length - (k + 1))
          case measure => omega
          case rel =>
            refine ⟨k + 1, xs.tail, t + 1, S, a1n, c1n, a2', c2, rfl, by omega, by go_num, (show Hid _ from ⟨?_, q6, HSC5.out.kept hg6 (by simp), by omega, by omega, HBL5.out.grown hg6 HBL5.out.size (fun z hz => by cases hz; exact hmow)⟩)⟩
            exact HF5.out.mapTurned HNO.out (by omega) hg6
        | false =>
          rw [hnx] at hop
          simp only [Bool.false_eq_true, if_false] at hop
          have HOP := Lib.hid hop; clear hop
          have HNX := Lib.hid hnx; clear hnx
          go_wp2_with fail
          refine HOP.out.mono ?_
          rintro e w5 ⟨rfl, hfo⟩
          obtain ⟨a1n, c1n, hF5, hg5⟩ := hfo
          rw [HNX.out, if_neg (by decide)] at hF5
          have hso5 := HSO.out.grew hg5 (by omega)
          have hsc5 := HSC.out.grew hg5 (by omega)
          have hbl5 := hg5.below HBL.out (fun z _ hz => by rw [hz]; exact hgw') HBL.out.size
          have HF5 := Lib.hid hF5; clear hF5
          have HSO5 := Lib.hid hso5; clear hso5
          have HSC5 := Lib.hid hsc5; clear hsc5
          have HBL5 := Lib.hid hbl5; clear hbl5 hg5
          go_wp2_with fail
          go_roundg (ls.length - (k + 1))
          case measure => omega
          case rel => exact ⟨k + 1, xs.tail, t, S, a1n, c1n, a2', c2, rfl, by omega, by go_num, (show Hid _ from ⟨HF5.out, HSO5.out, HSC5.out, by omega, by omega, HBL5.out⟩)⟩
      · have hid64 : In64 id := ⟨hi0, hi1⟩
        have hd' : ¬ d % 4 < 2 := hd
        by_cases hbad : id < 1 ∨ (t : Int) < id
        · have k6 : knownF t S id 6 = 9 := by unfold knownF; rw [if_pos hbad]
          have k10 : knownF t S id 10 = 9 := by unfold knownF; rw [if_pos hbad]
          have hpr := factory_Prove_no g b a1 c1 xs a2' c2 [] t S id _ HF.out hid64 (by rw [k6]; decide)
          have hcl := factory_Close_no g b a1 c1 xs a2' c2 [] t S id _ HF.out hid64 (by rw [k10]; decide)
          rw [k6] at hpr
          rw [k10] at hcl
          have l1 := HSO.out.look hid64
          have l2 := HSC.out.look hid64
          rw [decide_eq_false (fun h => by have := mem_upL.1 h; omega)] at l1
          rw [decide_eq_false (fun h => by have := HF.out.in_ id h; omega)] at l2
          have HPR := Lib.hid hpr; clear hpr
          have HCL := Lib.hid hcl; clear hcl k6 k10 hbad
          go_wp2_with (first | (go_at_call 17; refine HPR.out.mono ?_; rintro e w' ⟨rfl, rfl⟩) | (go_at_call 18; refine HCL.out.mono ?_; rintro e w' ⟨rfl, rfl⟩))
          go_roundg (ls.length - (k + 1))
          case measure => omega
          case rel => exact ⟨k + 1, xs, t, S, a1, c1, a2', c2, rfl, by omega, by go_num, (show Hid _ from ⟨HF.out, HSO.out, HSC.out, by omega, by omega, HBL.out⟩)⟩
        · have hup : id ∈ upL t := mem_upL.2 (by omega)
          by_cases hin : id ∈ S
          · have k6 : knownF t S id 6 = 6 := by unfold knownF; rw [if_neg hbad, if_pos hin]
            have k10 : knownF t S id 10 = 10 := by unfold knownF; rw [if_neg hbad, if_pos hin]
            have hpr := factory_Prove_no g b a1 c1 xs a2' c2 [] t S id _ HF.out hid64 (by rw [k6]; decide)
            have hcl := factory_Close_no g b a1 c1 xs a2' c2 [] t S id _ HF.out hid64 (by rw [k10]; decide)
            rw [k6] at hpr
            rw [k10] at hcl
            have l1 := HSO.out.look hid64
            have l2 := HSC.out.look hid64
            rw [decide_eq_true hup] at l1
            rw [decide_eq_true hin] at l2
            have HPR := Lib.hid hpr; clear hpr
            have HCL := Lib.hid hcl; clear hcl k6 k10 hbad hup hin
            go_wp2_with (first | (go_at_call 17; refine HPR.out.mono ?_; rintro e w' ⟨rfl, rfl⟩) | (go_at_call 18; refine HCL.out.mono ?_; rintro e w' ⟨rfl, rfl⟩))
            go_roundg (ls.length - (k + 1))
            case measure => omega
            case rel => exact ⟨k + 1, xs, t, S, a1, c1, a2', c2, rfl, by omega, by go_num, (show Hid _ from ⟨HF.out, HSO.out, HSC.out, by omega, by omega, HBL.out⟩)⟩
          · have k6 : knownF t S id 6 = 0 := by unfold knownF; rw [if_neg hbad, if_neg hin]
            have k10 : knownF t S id 10 = 0 := by unfold knownF; rw [if_neg hbad, if_neg hin]
            have hpr := factory_Prove_yes g b a1 c1 xs a2' c2 [] t S id _ HF.out hid64 k6
            have HPR := Lib.hid hpr; clear hpr k6
            have K10 := Lib.hid k10; clear k10 hbad
            have HIN := Lib.hid hin; clear hin
            have HUP := Lib.hid hup; clear hup
            go_wp2_with fail
            refine HPR.out.mono ?_
            rintro e w5 ⟨rfl, hfp⟩
            obtain ⟨a2n, c2n, hF5, hg5⟩ := hfp
            have hF5' : Fc w5 g b a1 c1 xs a2n c2n [] t S := hF5
            have hcl := factory_Close_yes g b a1 c1 xs a2n c2n [] t S id w5 hF5' hid64 K10.out (by omega)
            have hso5 := HSO.out.grew hg5 (by omega)
            have hsc5 := HSC.out.grew hg5 (by omega)
            have hbl5 := hg5.below HBL.out (fun z _ hz => by rw [hz]; exact hgw') HBL.out.size
            have hkb5 := HKB.out.grew hg5 (by have := HR.out.fc.blk.lt; omega)
            have n5 := hkb5.cell 1
            have n5l := hkb5.lt
            simp only [List.getElem?_toArray, List.getElem?_cons_zero, List.getElem?_cons_succ] at n5
            have HKB5 := Lib.hid hkb5; clear hkb5
            have HCL := Lib.hid hcl; clear hcl hF5 hF5'
            have HSO5 := Lib.hid hso5; clear hso5
            have HSC5 := Lib.hid hsc5; clear hsc5
            have HBL5 := Lib.hid hbl5; clear hbl5 hg5 HPR
            go_wp2_with fail
            refine HCL.out.mono ?_
            rintro e w6 ⟨rfl, hF6, hg6⟩
            have hkb6 := (hg6.block _ n5l (fun e => by have := Option.some.inj e; have := HR.out.fc.st.lt; omega)).trans HKB5.out
            have n6 := (show Blk w6 _ _ _ from hkb6).cell 1
            have n6l := (show Blk w6 _ _ _ from hkb6).lt
            simp only [List.getElem?_toArray, List.getElem?_cons_zero, List.getElem?_cons_succ] at n6
            have hso6 := HSO5.out.kept hg6 (by simp; omega)
            have hsc6 := HSC5.out.kept hg6 (by simp; omega)
            have hbl6 := HBL5.out.grown hg6 HBL5.out.size (fun z hz => by cases hz; exact hbw')
            have l1 := hso6.look hid64
            have l2 := hsc6.look hid64
            rw [decide_eq_true HUP.out] at l1
            rw [decide_eq_false HIN.out] at l2
            have hkey : keyOf Tryz.prog 28 (.int .u64 id) = some (K64 id) := keyOf_int_mk Tryz.underlying28 hid64.wf
            obtain ⟨DS, hownS, hTS⟩ := hsc6
            have hul : S.length < maxLen := by unfold maxLen; omega
            have hno : ∀ off, w6.cell? ⟨mo + 1, off, none⟩ = none := fun off => own_no_cell hownS off
            have HNO := Lib.hid hno; clear hno
            have HTS := Lib.hid hTS; clear hTS
            have HF6 := Lib.hid hF6; clear hF6
            have HSO6 := Lib.hid hso6; clear hso6
            have HBL6 := Lib.hid hbl6; clear hbl6 hkb6 hg6 HCL
            go_wp2_with (at_mapUpdate; refine wpList_mapUpdate_in _ rfl _ _ _ 27 rfl 28 4 lawU Tryz.underlying27 _ (mo + 1) _ DS rfl hownS hul _ _ _ rfl rfl hkey _ [] (plainElem_bool Tryz.underlying4 true) ?_; intro w7 hown7 hturn7)
            have hg7 := hturn7.grown
            have q7 := St.put HTS.out HIN.out hown7
            go_roundg (ls.length - (k + 1))
            case measure => omega
            case rel =>
              refine ⟨k + 1, xs, t, S ++ [id], a1, c1, a2n, c2n, rfl, by omega, by go_num, (show Hid _ from ⟨?_, HSO6.out.kept hg7 (by simp), q7, by omega, by simp; omega, HBL6.out.grown hg7 HBL6.out.size (fun z hz => by cases hz; omega)⟩)⟩
              exact HF6.out.mapTurned HNO.out (by omega) hg7
    · obtain ⟨DM, hownM, hTM⟩ := HR.out.so
      have hu : (upL t).length = t := upL_length t
      have HU := Lib.hid hu; clear hu
      have HTM := Lib.hid hTM; clear hTM
      go_wp2_with (at_range; refine wpList_range_own _ rfl _ 27 rfl 28 4 lawU Tryz.underlying27 _ mo (upL t).length DM rfl hownM ?_; intro w5 hrg hg5 hs5)
      go_frame
      have hbw5 : RowKit.Below wr.heap.size wr w5 := ⟨hg5.os, hg5.tape, hg5.output, hg5.size, fun i hi => hg5.block i hi (by simp)⟩
      have F5 := Lib.hid (HR.out.fc.of_below hbw5)
      have C5 := Lib.hid (HR.out.sc.of_below hbw5)
      have O5 := Lib.hid (HR.out.so.of_below hbw5)
      have B5 := Lib.hid (below_step HR.out.bl HR.out.bl.size hbw5)
      have r1 := HR.out.fc.blk.lt
      have r2 := HR.out.fc.st.lt
      have r5 := HR.out.bl.size
      have rr1 : ∀ q, a1 = some q → 0 < xs.length → q.block < wr.heap.size := fun q hq h0 => by
        obtain ⟨b', off, ha, hb', _⟩ := HR.out.fc.r1.2.2.2 h0
        rw [ha] at hq; cases hq; exact hb'
      have RR1 := Lib.hid rr1; clear rr1
      clear HR hbw5 hg5 hs5 hlt
      generalize wr.heap.size = rr at *
      go_loopg [108] (Maps.size DM) (fun gh _ wx => ∃ (left : Lit → Bool) (cnt : Nat), gh = cnt ∧ wx.ranges Tryz.prog 28 (plainElem Tryz.prog 4) mo rr (upL t).length DM left cnt ∧ Fc wx g b a1 c1 xs a2' c2 [] t S ∧ St wx (mo + 1) S ∧ St wx mo (upL t) ∧ RowKit.Below w.heap.size w wx)
      case atStart => exact ⟨_, _, rfl, hrg, F5.out, C5.out, O5.out, B5.out⟩
      case round =>
        clear F5 C5 O5 B5 hrg
        obtain ⟨left, cnt, rfl, hrg, hF, hC, hO, hB⟩ := hrel
        have HF := Lib.hid hF; clear hF
        have HC := Lib.hid hC; clear hC
        have HO := Lib.hid hO; clear hO
        have HB := Lib.hid hB; clear hB
        go_wp2_with (at_next; refine wpList_next_set _ rfl _ rfl mo rr (upL t).length DM (upL t) HTM.out left _ rfl hrg ?_ ?_)
        · intro hc0 hl0
          clear hl0
          have hop := fun W (hb : RowKit.Below wr.heap.size wr W) => factory_Opened g b a1 c1 xs a2' c2 [] t S W (HF.out.of_below hb)
          have hcl := factory_Closed g b a1 c1 xs a2' c2 [] t S wr HF.out (by omega)
          have hids := factory_IDs g b a1 c1 xs a2' c2 [] t S wr HF.out
          have hcount := openIds_len HC.out.nodup HF.out.in_
          obtain ⟨DO, hownO, hTO⟩ := HO.out
          obtain ⟨DC, hownC, hTC⟩ := HC.out
          have hlO : ∀ W, RowKit.Below wr.heap.size wr W → ∀ ty, (Builtin.len_ #[27] ty #[.map (some mo)]).run Tryz.prog W = .ok (.int .i64 t) W := fun W hW ty => by
            have h := hownO.kept (row := none) (w' := W) ⟨hW.os, hW.tape, hW.output, hW.size, fun i hi _ => hW.block i hi⟩ (by simp)
            rw [h.len Tryz.underlying27 ty, hTO.size_, HU.out]
          have hlC : ∀ W, RowKit.Below wr.heap.size wr W → ∀ ty, (Builtin.len_ #[27] ty #[.map (some (mo + 1))]).run Tryz.prog W = .ok (.int .i64 S.length) W := fun W hW ty => by
            have h := hownC.kept (row := none) (w' := W) ⟨hW.os, hW.tape, hW.output, hW.size, fun i hi _ => hW.block i hi⟩ (by simp)
            rw [h.len Tryz.underlying27 ty, hTC.size_]
          have hO0 := hlO wr (Below.refl _ _)
          have hC0 := hlC wr (Below.refl _ _)
          have HLO := Lib.hid hlO; clear hlO
          have HLC := Lib.hid hlC; clear hlC
          have HOP := Lib.hid (hop wr (Below.refl _ _)); clear hop
          have HCL := Lib.hid hcl; clear hcl
          have HIDS := Lib.hid hids; clear hids
          have HCN := Lib.hid hcount; clear hcount hownO hTO hownC hTC
          go_wp2_with fail
          refine HOP.out.mono ?_
          rintro e w' ⟨rfl, rfl⟩
          go_wp2_with fail
          refine HCL.out.mono ?_
          rintro e w' ⟨rfl, rfl⟩
          go_wp2_with fail
          refine HIDS.out.mono ?_
          rintro e w6 ⟨A6, c6, rfl, -, hb6⟩
          have hO6 := HLO.out w6 hb6
          have hC6 := HLC.out w6 hb6
          have hsub : wrap64 ((t : Int) - (S.length : Int)) = ((openIds S t).length : Int) := by
            have := HCN.out
            rw [wrap64_id _ (by omega) (by omega)]; omega
          have HB6 := Lib.hid (below_step HB.out HB.out.size hb6); clear hb6 hO0 hC0
          go_wp2_with fail
          go_ret
          exact ⟨ret_bool (by rw [beq_iff_eq]; have := HCN.out; omega), HB6.out⟩
        · intro x w6 cnt2 hhas hrg2 hlt6 hg6 hs6 hen
          have hx1 := mem_upL.1 hhas
          have hid64 : In64 x := ⟨by omega, by omega⟩
          have hgr6 := Grew.of_grown (S := (· = rr)) hg6 (fun z hz => (Option.some.inj hz).symm)
          have hF6 := HF.out.grew hgr6 (by omega) (by omega) (fun q hq h0 => by have := RR1.out q hq h0; omega) (fun q hq h0 => by simp at h0)
          have hC6 := HC.out.grew hgr6 (by omega)
          have hO6 := HO.out.grew hgr6 (by omega)
          have hB6 := hgr6.below HB.out (fun z _ hz => by rw [hz]; exact r5) HB.out.size
          have hio := fun n => factory_IsOpen g b a1 c1 xs a2' c2 [] t S x (w6.drewN n) (hF6.of_below (below_drewN (Below.refl _ _) n)) hid64
          have hlk2 := fun n => (hC6.of_below (below_drewN (Below.refl w6.heap.size w6) n)).look hid64
          have hkn : knownF t S x 10 = if x ∈ S then 10 else 0 := by unfold knownF; rw [if_neg (by omega)]
          have HF6 := Lib.hid hF6; clear hF6
          have HC6 := Lib.hid hC6; clear hC6
          have HO6 := Lib.hid hO6; clear hO6
          have HB6 := Lib.hid hB6; clear hB6
          have HRG := Lib.hid hrg2; clear hrg2 hrg
          clear hs6 hg6 hgr6 hhas
          by_cases hxs : x ∈ S
          · rw [if_pos hxs] at hkn
            rw [hkn] at hio
            rw [decide_eq_true hxs] at hlk2
            have HIO := Lib.hid hio; clear hio hkn hxs
            go_wp2_with fail
            go_quiet ((go_at_call 19; exact Calls.quiet_of_same ((HIO.out _).mono fun e w' ⟨he, hw⟩ => ⟨he, hw.symm⟩)))
            go_wp2
            go_roundg cnt2
            case measure => exact hlt6
            case rel => exact ⟨_, cnt2, rfl, HRG.out.kept (row := none) ⟨rfl, rfl, rfl, Nat.le_refl _, fun _ _ _ => rfl⟩ (by simp) (by simp), HF6.out.of_below (below_drewN (Below.refl _ _) _), HC6.out.of_below (below_drewN (Below.refl _ _) _), HO6.out.of_below (below_drewN (Below.refl _ _) _), below_drewN HB6.out _⟩
          · rw [if_neg hxs] at hkn
            rw [hkn] at hio
            rw [decide_eq_false hxs] at hlk2
            have HIO := Lib.hid hio; clear hio hkn hxs
            go_wp2_with fail
            go_quiet ((go_at_call 19; exact Calls.quiet_of_same ((HIO.out _).mono fun e w' ⟨he, hw⟩ => ⟨he, hw.symm⟩)))
            go_wp2
            go_roundg cnt2
            case measure => exact hlt6
            case rel => exact ⟨_, cnt2, rfl, HRG.out.kept (row := none) ⟨rfl, rfl, rfl, Nat.le_refl _, fun _ _ _ => rfl⟩ (by simp) (by simp), HF6.out.of_below (below_drewN (Below.refl _ _) _), HC6.out.of_below (below_drewN (Below.refl _ _) _), HO6.out.of_below (below_drewN (Below.refl _ _) _), below_drewN HB6.out _⟩
end Go.Proofs.YtonfaojmphidpaaGreatDoor
