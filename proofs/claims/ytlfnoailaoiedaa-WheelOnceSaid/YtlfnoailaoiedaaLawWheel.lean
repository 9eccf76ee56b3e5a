/- The walks of layer 5's laws: WheelPlays. -/
import Derived.Test.YtlfnoailaoiedaaAwake05
import Derived.Test.YtlfnoailaoiedaaRef05Arm
import Derived.Test.YtlfnoailaoiedaaOpen
import Derived.Deep.Cut
import Derived.Deep.CutRange
import Derived.Deep.CutBlock
import Derived.Deep.LoopGhost
namespace Go.Proofs.Ytlfnoailaoiedaa
open Go.RowKit Go.Maps
set_option linter.unusedVariables false
set_option linter.unusedSimpArgs false

def hdT (T : List (Int × Int)) : Int := (T.headD (0, 0)).2
theorem wheel_NextS (g b : Nat) (T : List (Int × Int)) (w : World) (h : Ws w g b T) (hl : T.length ≤ 90000) :
    Calls Try.prog 46 #[.pointer (some ⟨g, 0, none⟩)] w fun e w' => e = .returned (.tuple #[.int .u64 (hdT T), .bool (decide (0 < T.length))]) ∧ RowKit.Below w.heap.size w w' := by
  cases T with
  | nil => exact wheel_Next_empty g b w h
  | cons p T => exact (wheel_Next g b p T w h (by simp at hl; omega)).mono fun e w' ⟨h1, h2⟩ => ⟨by rw [h1]; simp [hdT], h2⟩
theorem wheel_ArmAny (g b : Nat) (T : List (Int × Int)) (k v : Int) (w : World) (h : Ws w g b T) (hk : In64 k) (hv : In64 v) (hl : T.length < 1024) :
    Calls Try.prog 36 #[.pointer (some ⟨g, 0, none⟩), .int .u64 k, .int .u64 v] w fun e w' => e = .returned (.int .i64 0) ∧ Ws w' g b (armT T k v) ∧ w.grownBy w' (some b) :=
  wheel_ArmS g b T k v w h hk hv (by omega) (.inr hl)
theorem restT_le (T : List (Int × Int)) (now : Int) : (restT T now).length ≤ T.length := (List.dropWhile_sublist _).length_le
theorem dueT_le (T : List (Int × Int)) (now : Int) : (dueT T now).length ≤ T.length := (List.takeWhile_sublist _).length_le
/-- A map's block holds no cells. -/
theorem Wh.no_cell {w : World} {g b : Nat} {L : List (Int × Int)} (h : Wh w g b L) (off : Nat) : w.cell? ⟨b, off, none⟩ = none := by
  obtain ⟨D, ⟨es, clock, h1, -⟩, -⟩ := h.map_
  simp [World.cell?, h1]
theorem Wh.ne_blk {w : World} {g b : Nat} {L : List (Int × Int)} (h : Wh w g b L) {x : Nat} {t : TypeId} {cs : Array Value} (k : Blk w x t cs) : x ≠ b := by
  obtain ⟨D, ⟨es, clock, h1, -⟩, -⟩ := h.map_
  intro e; subst e; unfold Blk at k; rw [k] at h1; cases h1
theorem Rd.kept {w w' : World} {size : Nat} {a : Option Addr} {n cap : Nat} {cs : List Value} (hs0 : 0 < size) (h : Rd size w a n cap cs) {g b : Nat} {L : List (Int × Int)} (hw : Wh w g b L) (hg : w.grownBy w' (some b)) : Rd size w' a n cap cs := by
  refine ⟨h.1, h.2.1, h.2.2.1, fun h0 => ?_⟩
  obtain ⟨x, off, ha, hx, hc⟩ := h.2.2.2 h0
  have hne : x ≠ b := fun e => by
    subst e
    have hl : 0 < cs.length := by rw [h.1]; exact Nat.mul_pos h0 hs0
    have := hc 0 cs[0] (List.getElem?_eq_getElem hl)
    rw [hw.no_cell] at this; cases this
  exact ⟨x, off, ha, Nat.lt_of_lt_of_le hx hg.size, fun i v hi => (World.cell?_of_block (w := w) (a := ⟨x, off + i, none⟩) (hg.block x hx (fun e => hne (Option.some.inj e)))).trans (hc i v hi)⟩
theorem Tm.kept {w w' : World} {a : Option Addr} {cap : Nat} {T : List (Int × Int)} (h : Tm w a cap T) {g b : Nat} {L : List (Int × Int)} (hw : Wh w g b L) (hg : w.grownBy w' (some b)) : Tm w' a cap T := Rd.kept (by decide) h hw hg
theorem Blk.kept {w w' : World} {x : Nat} {t : TypeId} {cs : Array Value} (k : Blk w x t cs) {g b : Nat} {L : List (Int × Int)} (hw : Wh w g b L) (hg : w.grownBy w' (some b)) : Blk w' x t cs :=
  (hg.block x k.lt (fun e => hw.ne_blk k (Option.some.inj e))).trans k
theorem Ws.kept {w w' : World} {g b : Nat} {T : List (Int × Int)} {r : Nat} (h : Ws w g b T) (hg : w.grownBy w' (some r)) (h1 : g ≠ r) (h2 : b ≠ r) : Ws w' g b T := ⟨h.wh.kept hg (fun e => h1 (Option.some.inj e)) (fun e => h2 (Option.some.inj e)), h.srt⟩

set_option maxRecDepth 100000 in
set_option maxHeartbeats 4000000 in
theorem law_WheelPlays (a : Option Addr) (m mcap : Nat) (zs : List WAct) (w : World) (hz : WActsIn w a m zs) :
    Calls Try.prog 7 #[.slice a m mcap] w fun e w' => e = .returned (.bool true) ∧ RowKit.Below w.heap.size w w' := by
  obtain ⟨hzl, hm, hzwf, hzc⟩ := hz
  by_cases hbig : 100 < m
  · go_enter Try.func7, Try.ntmps7
    go_wp2_with (first | (go_at_call 34; refine (law05_awake _).mono ?_; rintro e w' ⟨rfl, hb⟩))
    go_ret
    exact ⟨rfl, hb⟩
  have HWF := Lib.hid hzwf; clear hzwf
  have HZC := Lib.hid hzc; clear hzc
  have HZL := Lib.hid hzl; clear hzl
  go_enter Try.func7, Try.ntmps7
  go_wp2_with (first | (go_at_call 34; refine (law05_awake _).mono ?_; rintro e w0 ⟨rfl, hb0⟩) | (go_at_call 35; refine (wheel_NewS _).mono ?_; rintro e w1 ⟨g1, b1, rfl, s1, hg1, hb1, B1⟩))
  go_loopg [3, 4, 28] (m : Nat) (fun gh v3 v4 iv wr => ∃ (k g b : Nat) (T : List (Int × Int)) (ad : Option Addr) (cd : Nat), gh = m - k ∧ k ≤ m ∧ v3 = .pointer (some ⟨g, 0, none⟩) ∧ v4 = .slice ad T.length cd ∧ iv = .int .i64 k ∧
    T.length ≤ k ∧ Ws wr g b T ∧ Tm wr ad cd T ∧ w.heap.size ≤ b ∧ RowKit.Below w.heap.size w wr)
  case atStart => exact ⟨0, g1, b1, [], none, 0, by omega, by omega, rfl, rfl, rfl, by simp, s1, Rd.nil_ _ _, Nat.le_trans hb0.size hb1, below_step hb0 hb0.size B1⟩
  case round =>
    obtain ⟨k, g, b, T, ad, cd, rfl, hk, rfl, rfl, rfl, hTk, hS, hTm, hbb, hB⟩ := hrel
    clear s1 B1 hb0
    by_cases hlt : k < m
    · obtain ⟨ab, aoff, rfl, hab, hcs⟩ := HZC.out (by omega)
      obtain ⟨c0', c1', c2'⟩ := hcs k hlt
      have c0 := (hB.cell (p := ⟨ab, aoff + k * 3, none⟩) hab).trans c0'
      have c1 := (hB.cell (p := ⟨ab, aoff + k * 3 + 1, none⟩) hab).trans c1'
      have c2 := (hB.cell (p := ⟨ab, aoff + k * 3 + 2, none⟩) hab).trans c2'
      obtain ⟨q0, q1, q2, q3, q4, q5⟩ := HWF.out (zs.getD k default) (getD_mem (by have := HZL.out; omega))
      clear c0' c1' c2' hcs
      generalize zs.getD k default = A at *
      obtain ⟨ado, ak, aa⟩ := A
      dsimp only at c0 c1 c2 q0 q1 q2 q3 q4 q5
      have hBW : RowKit.Below wr.heap.size wr (wr.alloc (.cells #[.int .u8 ado, .int .u64 ak, .int .u64 aa] 68)) := (RowKit.Below.refl _ _).alloc (Nat.le_refl _) _
      have HS := Lib.hid (hS.of_below hBW); clear hS
      have HT := Lib.hid (hTm.below hBW); clear hTm
      have HA := Lib.hid (Blk.new wr 68 #[.int .u8 ado, .int .u64 ak, .int .u64 aa])
      have HB := Lib.hid (below_step hB hB.size hBW)
      go_upto_if 34 with fail
      generalize wr.alloc (.cells #[.int .u8 ado, .int .u64 ak, .int .u64 aa] 68) = W at *
      clear hBW hB c0 c1 c2
      generalize wr.heap.size = av at *
      go_cut [3, 28] from 28 to 148 (fun v3 iv wc => iv = .int .i64 k ∧ ∃ g b, v3 = .pointer (some ⟨g, 0, none⟩) ∧ Ws wc g b T ∧ w.heap.size ≤ b ∧ Tm wc ad cd T ∧ Blk wc av 68 #[.int .u8 ado, .int .u64 ak, .int .u64 aa] ∧ RowKit.Below w.heap.size w wc)
      case first =>
        by_cases hbit : 128 ≤ ado
        · have hT1 : T.length < 1024 := by omega
          have hT2 : (armT T ak 0).length ≤ 90000 := by have := armT_le T ak 0; omega
          go_wp2_with (first
            | (go_at_call 39; refine (wheel_CloneS g b T _ HS.out).mono ?_; rintro e w2 ⟨g2, b2, rfl, s2, hg2, hb2, B2⟩; have k2 := HA.out.of_below B2; have p1 := k2.cell 1; have p2 := k2.lt; simp only [List.getElem?_toArray, List.getElem?_cons_zero, List.getElem?_cons_succ] at p1; have S2 := Lib.hid s2; clear s2; have K2 := Lib.hid k2; clear k2)
            | (go_at_call 36; refine (wheel_ArmAny g b T ak 0 _ (HS.out.of_below B2) ⟨q2, q3⟩ (in64_lit (by omega)) hT1).mono ?_; rintro e w3 ⟨rfl, s3, g3⟩; have S3 := Lib.hid s3; clear s3)
            | (go_at_call 37; refine (wheel_Due g b (armT T ak 0) 3 _ S3.out hT2).mono ?_; rintro e w4 ⟨ax, cx, rfl, o4, s4, g4⟩))
          go_meet
          have g34 := g3.trans g4
          have hbl := HS.out.wh.lt
          have w2b := HS.out.wh.of_below B2
          exact ⟨rfl, g2, b2, rfl, S2.out.kept g34 (by omega) (by omega), by have := HB.out.size; omega, (HT.out.below B2).kept w2b g34, K2.out.kept w2b g34, below_grown (below_step HB.out HB.out.size B2) g34 hbb⟩
        · have hbit' : decide (128 ≤ ado) = false := decide_eq_false hbit
          go_wp2
          go_meet
          exact ⟨rfl, g, b, rfl, HS.out, hbb, HT.out, HA.out, HB.out⟩
      case rest =>
        clear HS HT HA HB hbb
        obtain ⟨rfl, g, b, rfl, hS, hbb, hTm, hA, hB⟩ := hcut
        have x0 := hA.cell 0
        have x1 := hA.cell 1
        have x2 := hA.cell 2
        have xl := hA.lt
        simp only [List.getElem?_toArray, List.getElem?_cons_zero, List.getElem?_cons_succ] at x0 x1 x2
        have HS := Lib.hid hS; clear hS
        have HT := Lib.hid hTm; clear hTm
        have HB := Lib.hid hB; clear hB
        have HA := Lib.hid hA; clear hA
        have hT1 : T.length < 1024 := by omega
        go_upto_block 2 with fail
        go_cut [4, 28] from 28 to 148 (fun v4 iv wx => iv = .int .i64 k ∧ ∃ (T' : List (Int × Int)) (ad' : Option Addr) (cd' : Nat), v4 = .slice ad' T'.length cd' ∧ T'.length ≤ k + 1 ∧ Ws wx g b T' ∧ Tm wx ad' cd' T' ∧ RowKit.Below w.heap.size w wx)
        case first =>
          by_cases hsw2 : ado % 4 = 2
          · go_wp2_with (first
              | (go_at_call 43; refine (ref05_Without ad cd T ak wc HT.out (by omega)).mono ?_; rintro e w2 ⟨a2, c2, rfl, o2, B2⟩; have k2 := HA.out.of_below B2; have p1 := k2.cell 1; have p2 := k2.lt; simp only [List.getElem?_toArray, List.getElem?_cons_zero, List.getElem?_cons_succ] at p1; have O2 := Lib.hid o2; clear o2; have K2 := Lib.hid k2; clear k2)
              | (go_at_call 41; refine (wheel_DisarmS g b T ak _ (HS.out.of_below B2) ⟨q2, q3⟩).mono ?_; rintro e w3 ⟨rfl, s3, g3⟩; have S3 := Lib.hid s3; clear s3))
            go_meet
            exact ⟨rfl, strike T ak, a2, c2, rfl, by have := strike_le T ak; omega, S3.out, Tm.kept (T := strike T ak) (own_rd O2.out) (HS.out.of_below B2).wh g3, below_grown (below_step HB.out HB.out.size B2) g3 hbb⟩
          · have h2 : (ado % 4 == 2) = false := by simpa using hsw2
            have H2 := Lib.hid hsw2; clear hsw2
            by_cases hsw3 : ado % 4 = 3
            · have hdl := dueT_le T aa
              have hdk : (dueT T aa).length ≤ 4611686018427387904 := by omega
              go_wp2_with (first
                | (go_at_call 44; refine (ref05_Due ad cd T aa wc HT.out (by omega)).mono ?_; rintro e w2 ⟨a2, c2, a3, c3, rfl, t2, o2, B2⟩; have k2 := HA.out.of_below B2; have p1 := k2.cell 2; have p2 := k2.lt; simp only [List.getElem?_toArray, List.getElem?_cons_zero, List.getElem?_cons_succ] at p1; have O2 := Lib.hid o2; clear o2; have K2 := Lib.hid k2; clear k2; have T2 := Lib.hid t2; clear t2)
                | (go_at_call 37; refine (wheel_Due g b T aa _ (HS.out.of_below B2) (by omega)).mono ?_; rintro e w3 ⟨ax, cx, rfl, ox, s3, g3⟩; have S3 := Lib.hid s3; clear s3; have hs1 : Sl .u64 w3 ax cx (keysOf (dueT T aa)) := (by unfold Sl; rw [keysOf_length]; exact own_rd ox); have hs2 : Sl .u64 w3 a3 c3 (keysOf (dueT T aa)) := (by unfold Sl; rw [keysOf_length]; exact Rd.kept (by decide) (own_rd O2.out) (HS.out.of_below B2).wh g3); clear ox; have hq := slices_Equal_u64 ax a3 cx c3 (keysOf (dueT T aa)) (keysOf (dueT T aa)) w3 hs1 hs2 (by rw [keysOf_length]; exact hdk) (by rw [keysOf_length]; exact hdk); rw [keysOf_length] at hq; have HQ := Lib.hid hq; clear hq hs1 hs2)
                | (go_at_call 31; refine HQ.out.mono ?_; rintro e w4 ⟨rfl, q, rfl⟩))
              go_meet
              have hr := restT_le T aa
              have hd := below_drewN (RowKit.Below.refl w3.heap.size w3) q
              exact ⟨rfl, restT T aa, a2, c2, rfl, by omega, S3.out.of_below hd, (T2.out.kept (HS.out.of_below B2).wh g3).below hd, below_drewN (below_grown (below_step HB.out HB.out.size B2) g3 hbb) q⟩
            · have h3 : (ado % 4 == 3) = false := by simpa using hsw3
              have H3 := Lib.hid hsw3; clear hsw3
              have hsl : (strike T ak).length < 1024 := by have := strike_le T ak; omega
              have hc := ref05_Arm ad cd T ak aa wc HT.out (by omega) hsl q4 q5
              rw [show insT (strike T ak) (ak, cAdd aa 0) = armT T ak aa from rfl] at hc
              have HC := Lib.hid hc; clear hc
              go_wp2_with (first
                | (go_at_call 45; refine HC.out.mono ?_; rintro e w2 ⟨a2, c2, rfl, o2, B2⟩; have k2 := HA.out.of_below B2; have p1 := k2.cell 1; have p1' := k2.cell 2; have p2 := k2.lt; simp only [List.getElem?_toArray, List.getElem?_cons_zero, List.getElem?_cons_succ] at p1 p1'; have O2 := Lib.hid o2; clear o2; have K2 := Lib.hid k2; clear k2)
                | (go_at_call 36; refine (wheel_ArmAny g b T ak aa _ (HS.out.of_below B2) ⟨q2, q3⟩ ⟨q4, q5⟩ hT1).mono ?_; rintro e w3 ⟨rfl, s3, g3⟩; have S3 := Lib.hid s3; clear s3))
              go_meet
              have hr := armT_le T ak aa
              exact ⟨rfl, armT T ak aa, a2, c2, rfl, by omega, S3.out, Tm.kept (T := armT T ak aa) (own_rd O2.out) (HS.out.of_below B2).wh g3, below_grown (below_step HB.out HB.out.size B2) g3 hbb⟩
        case rest =>
          clear HS HT HA HB x0 x1 x2 xl hT1
          obtain ⟨rfl, T', ad', cd', rfl, hTk', hS, hTm, hB⟩ := hcut
          clear hTk
          have HS := Lib.hid hS; clear hS
          have HT := Lib.hid hTm; clear hTm
          have HB := Lib.hid hB; clear hB
          go_upto_region 31 with (go_at_call 46; refine (wheel_NextS g b T' _ HS.out (by omega)).mono ?_; rintro e w2 ⟨rfl, B2⟩)
          have S2 := Lib.hid (HS.out.of_below B2)
          have T2 := Lib.hid (HT.out.below B2)
          have B2' := Lib.hid (below_step HB.out HB.out.size B2)
          clear HS HT HB
          go_cut [28, 125] from 28 to 148 (fun iv v125 wx => iv = .int .i64 k ∧ v125 = .bool false ∧ wx = w2)
          case first =>
            cases T' with
            | nil =>
              go_wp2_with (go_at_call 38; refine (wheel_LenS g b _ _ S2.out).mono ?_; rintro e w3 ⟨rfl, rfl⟩)
              go_meet
              exact ⟨rfl, rfl, rfl⟩
            | cons p T'' =>
              obtain ⟨tb, toff, rfl, htb, htc⟩ := T2.out.at_ (by simp)
              have y1 := (htc 0 p rfl).2
              rw [Nat.zero_mul, Nat.add_zero] at y1
              clear htc
              rw [show hdT (p :: T'') = p.2 from rfl]
              go_wp2_with (go_at_call 38; refine (wheel_LenS g b _ _ S2.out).mono ?_; rintro e w3 ⟨rfl, rfl⟩)
              all_goals go_meet
              all_goals exact ⟨rfl, rfl, rfl⟩
          case rest =>
            obtain ⟨rfl, rfl, rfl⟩ := hcut
            go_wp2
            go_loopg [128] T'.length (fun gh jv wr => ∃ j : Nat, gh = T'.length - j ∧ j ≤ T'.length ∧ jv = .int .i64 j ∧ Ws wr g b T' ∧ Tm wr ad' cd' T' ∧ RowKit.Below w.heap.size w wr)
            case atStart => exact ⟨0, by omega, by omega, rfl, S2.out, T2.out, B2'.out⟩
            case round =>
              clear S2 T2 B2 B2'
              obtain ⟨j, rfl, hj, rfl, hS, hTm, hB⟩ := hrel
              have HS := Lib.hid hS; clear hS
              have HT := Lib.hid hTm; clear hTm
              have HB := Lib.hid hB; clear hB
              by_cases hjl : j < T'.length
              · obtain ⟨tb, toff, rfl, htb, htc⟩ := HT.out.at_ (by omega)
                obtain ⟨p, hp⟩ : ∃ p, T'[j]? = some p := ⟨_, List.getElem?_eq_getElem hjl⟩
                obtain ⟨y0, y1⟩ := htc j p hp
                clear htc
                have hpm : p ∈ T' := List.mem_of_getElem? hp
                have hpi := (HS.out.wh.wf_ p hpm).1
                have hpv : valOf T' p.1 = p.2 := valOf_mem HS.out.nodup hpm
                have hpk : decide (p.1 ∈ keysOf T') = true := decide_eq_true (mem_keysOf.2 ⟨p.2, hpm⟩)
                obtain ⟨pk, pa⟩ := p
                dsimp only at y0 y1 hpi hpv hpk
                have hBW : RowKit.Below wr.heap.size wr (wr.alloc (.cells #[.int .u64 pk, .int .u64 pa] 88)) := (RowKit.Below.refl _ _).alloc (Nat.le_refl _) _
                have hc := wheel_At g b T' pk _ (HS.out.of_below hBW).wh hpi
                rw [hpv, hpk] at hc
                have HC := Lib.hid hc; clear hc
                clear hp hpv hpk hpm
                have HBW := Lib.hid hBW; clear hBW
                go_wp2_with (go_at_call 40; refine HC.out.mono ?_; rintro e w3 ⟨rfl, rfl⟩)
                go_roundg (T'.length - (j + 1))
                case measure => omega
                case rel => exact ⟨j + 1, rfl, by omega, by go_num, HS.out.of_below HBW.out, HT.out.below HBW.out, below_step HB.out HB.out.size HBW.out⟩
              · go_wp2
                go_roundg (m - (k + 1))
                case measure => omega
                case rel => exact ⟨k + 1, g, b, T', ad', cd', rfl, by omega, rfl, rfl, by go_num, by omega, HS.out, HT.out, hbb, HB.out⟩
    · have hkm : k = m := by omega
      go_wp2
      go_ret
      exact ⟨rfl, hB⟩
end Go.Proofs.Ytlfnoailaoiedaa
