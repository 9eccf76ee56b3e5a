/- The walk of layer 5's law WheelOnce. -/
import Derived.Test.YtlfnoailaoiedaaWheelSet
import Derived.Maps.RangeWalk
import Derived.Maps.OwnSet
import Derived.WalkKit
namespace Go.Proofs.Ytlfnoailaoiedaa
open Go.RowKit Go.Maps
set_option linter.unusedVariables false
set_option linter.unusedSimpArgs false

/-- What was seen is what is due no more. -/
structure Seen (T0 T : List (Int × Int)) (S : List Int) : Prop where
  nodup0 : (keysOf T0).Nodup
  nodup : (keysOf T).Nodup
  sub : ∀ p ∈ T, p ∈ T0
  mem : ∀ k, k ∈ S ↔ k ∈ keysOf T0 ∧ k ∉ keysOf T
  len : S.length + T.length = T0.length
theorem due_split {T : List (Int × Int)} (h : (keysOf T).Nodup) (now : Int) : keysOf T = keysOf (dueT T now) ++ keysOf (restT T now) := by
  conv => lhs; rw [← due_rest T now]
  simp [keysOf]
theorem Seen.step {T0 T : List (Int × Int)} {S : List Int} (h : Seen T0 T S) (now : Int) : Seen T0 (restT T now) (S ++ keysOf (dueT T now)) := by
  have hs := due_split h.nodup now
  have hn := h.nodup
  rw [hs, List.nodup_append] at hn
  have hsub : ∀ p ∈ restT T now, p ∈ T := fun p hp => (List.dropWhile_sublist _).mem hp
  refine ⟨h.nodup0, hn.2.1, fun p hp => h.sub p (hsub p hp), fun k => ?_, ?_⟩
  · rw [List.mem_append, h.mem]
    have hk : k ∈ keysOf T ↔ k ∈ keysOf (dueT T now) ∨ k ∈ keysOf (restT T now) := by rw [hs, List.mem_append]
    constructor
    · rintro (⟨h1, h2⟩ | h1)
      · exact ⟨h1, fun h3 => h2 (hk.2 (.inr h3))⟩
      · have h4 : k ∈ keysOf T := hk.2 (.inl h1)
        obtain ⟨v, hv⟩ := mem_keysOf.1 h4
        exact ⟨mem_keysOf.2 ⟨v, h.sub _ hv⟩, fun h3 => hn.2.2 k h1 k h3 rfl⟩
    · rintro ⟨h1, h2⟩
      by_cases h3 : k ∈ keysOf T
      · exact .inr ((hk.1 h3).resolve_right h2)
      · exact .inl ⟨h1, h3⟩
  · have h1 := h.len
    have h2 : T.length = (dueT T now).length + (restT T now).length := by
      conv => lhs; rw [← due_rest T now]
      simp
    rw [List.length_append, keysOf_length]; omega
theorem valOf_sub {T0 T : List (Int × Int)} {S : List Int} (h : Seen T0 T S) {p : Int × Int} (hp : p ∈ T) : valOf T0 p.1 = p.2 := valOf_mem h.nodup0 (h.sub p hp)

set_option maxRecDepth 100000 in
set_option maxHeartbeats 8000000 in
theorem law_WheelOnce (a : Option Addr) (m mcap : Nat) (zs : List WAct) (a2 : Option Addr) (n2 cap2 : Nat) (ls : List Int) (w : World) (hz : WActsIn w a m zs) (hl : Nums .u64 w a2 n2 cap2 ls) :
    Calls Try.prog 5 #[.slice a m mcap, .slice a2 n2 cap2] w fun e w' => e = .returned (.bool true) ∧ RowKit.Below w.heap.size w w' := by
  obtain ⟨hzl, hm, hzwf, hzc⟩ := hz
  obtain ⟨rfl, hn2, hlwf, hsl⟩ := hl
  by_cases hbig : 60 < m
  · go_enter Try.func5, Try.ntmps5
    go_wp2_with (first | (go_at_call 34; refine (law05_awake _).mono ?_; rintro e w' ⟨rfl, hb⟩))
    go_ret
    exact ⟨rfl, hb⟩
  by_cases hbig2 : 60 < ls.length
  · go_enter Try.func5, Try.ntmps5
    go_wp2_with (first | (go_at_call 34; refine (law05_awake _).mono ?_; rintro e w' ⟨rfl, hb⟩))
    go_ret
    exact ⟨rfl, hb⟩
  have HWF := Lib.hid hzwf; clear hzwf
  have HZC := Lib.hid hzc; clear hzc
  have HZL := Lib.hid hzl; clear hzl
  have HSL := Lib.hid hsl; clear hsl
  have HLW := Lib.hid hlwf; clear hlwf
  have hmm := @run_makeMap Try.prog
  go_enter Try.func5, Try.ntmps5
  go_wp2_with (first | (go_at_call 34; refine (law05_awake _).mono ?_; rintro e w0 ⟨rfl, hb0⟩) | (go_at_call 35; refine (wheel_NewS _).mono ?_; rintro e w1 ⟨g, b, rfl, s1, hg1, hb1, B1⟩))
  go_loopg [30] (m : Nat) (fun gh iv wr => ∃ (k : Nat) (T : List (Int × Int)), gh = m - k ∧ k ≤ m ∧ iv = .int .i64 k ∧ T.length ≤ k ∧ Ws wr g b T ∧ Mp wr w1.heap.size T ∧ RowKit.Below w.heap.size w wr)
  case atStart =>
    have hB1 := below_step hb0 hb0.size B1
    exact ⟨0, [], by omega, by omega, rfl, by simp, s1.of_below ((RowKit.Below.refl _ _).alloc (Nat.le_refl _) _), Mp.made w1, hB1.alloc hB1.size _⟩
  case round =>
    obtain ⟨k, T, rfl, hk, rfl, hTk, hS, hM, hB⟩ := hrel
    have hbb : w.heap.size ≤ b := by have := hb0.size; omega
    have hmb : w.heap.size ≤ w1.heap.size := by have := hb0.size; have := B1.size; omega
    have hgl := s1.wh.blk.lt
    have hbl := s1.wh.lt
    clear s1 B1 hb0
    by_cases hlt : k < m
    · obtain ⟨ab, aoff, rfl, hab, hcs⟩ := HZC.out (by omega)
      obtain ⟨c0', c1', c2'⟩ := hcs k hlt
      have c0 := (hB.cell (p := ⟨ab, aoff + k * 3, none⟩) hab).trans c0'
      have c1 := (hB.cell (p := ⟨ab, aoff + k * 3 + 1, none⟩) hab).trans c1'
      have c2 := (hB.cell (p := ⟨ab, aoff + k * 3 + 2, none⟩) hab).trans c2'
      obtain ⟨q0, q1, q2, q3, q4, q5⟩ := HWF.out (zs.getD k default) (getD_mem (by have := HZL.out; omega))
      clear c0' c1' c2' hcs
      generalize zs.getD k default = A at *
      obtain ⟨ado, ak, aa⟩ := A
      dsimp only at c0 c1 c2 q0 q1 q2 q3 q4 q5
      have hBW : RowKit.Below wr.heap.size wr (wr.alloc (.cells #[.int .u8 ado, .int .u64 ak, .int .u64 aa] 68)) := (RowKit.Below.refl _ _).alloc (Nat.le_refl _) _
      have hA := Blk.new wr 68 #[.int .u8 ado, .int .u64 ak, .int .u64 aa]
      have hT1 : T.length < 1024 := by omega
      have hSW := hS.of_below hBW
      have hMW := hM.of_below hBW
      have hc := wheel_ArmAny g b T ak aa _ hSW ⟨q2, q3⟩ ⟨q4, q5⟩ hT1
      have HC := Lib.hid hc; clear hc hS hM
      have HBW := Lib.hid hBW; clear hBW
      have HMW := Lib.hid hMW; clear hMW
      have HSW := Lib.hid hSW; clear hSW
      have HA := Lib.hid hA; clear hA
      have hkey : keyOf Try.prog 22 (.int .u64 ak) = some (K64 ak) := keyOf_int_mk Try.underlying22 (show In64 ak from ⟨q2, q3⟩).wf
      have hmin : cAdd aa 0 = min aa 1152921504606846976 := by unfold cAdd; split <;> omega
      have hcw : (Lit.int .u64 (min aa 1152921504606846976)).wf = true := hmin ▸ (cAdd_in (show In64 aa from ⟨q4, q5⟩)).wf
      have HMIN := Lib.hid hmin; clear hmin
      go_wp2_with (first
        | (go_at_call 36; refine HC.out.mono ?_; rintro e w3 ⟨rfl, s3, g3⟩
           have k3 := HA.out.kept HSW.out.wh g3
           have p1 := k3.cell 1
           have p2 := k3.cell 2
           have p3 := k3.lt
           simp only [List.getElem?_toArray, List.getElem?_cons_zero, List.getElem?_cons_succ] at p1 p2
           have m3 := HMW.out.kept g3 (by simp; omega)
           obtain ⟨D, hown, hT⟩ := m3
           have S3 := Lib.hid s3; clear s3
           have HT := Lib.hid hT; clear hT
           have K3 := Lib.hid k3; clear k3)
        | (at_mapUpdate; refine wpList_mapUpdate_in _ rfl _ _ _ 66 rfl 22 22 lawU Try.underlying66 _ w1.heap.size T.length D rfl hown (by unfold maxLen; omega) _ _ _ rfl rfl hkey _ [] (plainElem_int Try.underlying22 hcw) ?_; intro w4 hown4 hturn4)
        | go_in)
      have m4 := Mp.put HT.out hown4
      rw [← HMIN.out] at m4
      go_roundg (m - (k + 1))
      case measure => omega
      case rel =>
        have hla := armT_le T ak aa
        exact ⟨k + 1, armT T ak aa, rfl, by omega, by go_num, by omega, S3.out.kept hturn4.grown (by omega) (by omega), m4.perm (armT_perm T ak aa), below_grown (below_grown (below_step hB hB.size HBW.out) g3 hbb) hturn4.grown hmb⟩
    · have hT60 : T.length ≤ 60 := by omega
      have HS := Lib.hid hS; clear hS
      have HM := Lib.hid hM; clear hM
      go_wp2
      have S1 := Lib.hid (HS.out.of_below ((RowKit.Below.refl _ _).alloc (Nat.le_refl _) (.map #[] 0)))
      have M1 := Lib.hid (HM.out.of_below ((RowKit.Below.refl _ _).alloc (Nat.le_refl _) (.map #[] 0)))
      have Q1 := Lib.hid (St.made wr)
      have BB1 := Lib.hid (hB.alloc hB.size (.map #[] 0))
      have hsb : w.heap.size ≤ wr.heap.size := hB.size
      have hgs : g < wr.heap.size := HS.out.wh.blk.lt
      have hbs : b < wr.heap.size := HS.out.wh.lt
      have hms : w1.heap.size < wr.heap.size := HM.out.lt
      have hnd0 := HS.out.nodup
      have hsrt := HS.out.srt
      have hwf0 := HS.out.wh.wf_
      have HWF0 := Lib.hid hwf0; clear hwf0
      clear HS HM hB
      generalize wr.alloc (.map #[] 0) = W0 at *
      generalize wr.heap.size = sb at *
      generalize hmbe : w1.heap.size = mb at *
      clear hmbe
      go_loopg [51] ls.length (fun gh iv wx => ∃ (i : Nat) (T2 : List (Int × Int)) (S : List Int), gh = ls.length - i ∧ i ≤ ls.length ∧ iv = .int .i64 i ∧ Seen T T2 S ∧ Ws wx g b T2 ∧ Mp wx mb T ∧ St wx sb S ∧ RowKit.Below w.heap.size w wx)
      case atStart => exact ⟨0, T, [], rfl, by omega, rfl, ⟨hnd0, hnd0, fun p hp => hp, fun k => by simp, by simp⟩, S1.out, M1.out, Q1.out, BB1.out⟩
      case round =>
        clear S1 M1 Q1 BB1
        obtain ⟨i, T2, S, rfl, hi, rfl, hSeen, hS, hM, hQ, hB⟩ := hrel
        have hT2l : T2.length ≤ 60 := by have := hSeen.len; omega
        have HS := Lib.hid hS; clear hS
        have HM := Lib.hid hM; clear hM
        have HQ := Lib.hid hQ; clear hQ
        have HB := Lib.hid hB; clear hB
        have HSE := Lib.hid hSeen; clear hSeen
        by_cases hlt2 : i < ls.length
        · obtain ⟨lb, loff, rfl, hlb, hlc⟩ := HSL.out.at_ (by omega)
          have c0 := (HB.out.cell (p := ⟨lb, loff + i, none⟩) hlb).trans (hlc i hlt2)
          clear hlc
          have hnw : In64 (ls.getD i 0) := wf_In64 (HLW.out _ (by rw [List.getD_eq_getElem?_getD, List.getElem?_eq_getElem hlt2]; exact List.getElem_mem hlt2))
          generalize ls.getD i 0 = now at *
          have hdl := dueT_le T2 now
          go_wp2_with (go_at_call 37; refine (wheel_Due g b T2 now _ HS.out (by omega)).mono ?_; rintro e w3 ⟨ax, cx, rfl, ox, s3, g3⟩; have S3 := Lib.hid s3; clear s3; have O3 := Lib.hid ox; clear ox)
          have M3 := Lib.hid (HM.out.kept g3 (by simp; omega))
          have Q3 := Lib.hid (HQ.out.kept g3 (by simp; omega))
          have BB3 := Lib.hid (below_grown HB.out g3 hbb)
          have hsr2 := HS.out.srt
          have hnd2 := HS.out.nodup
          have hwf2 := Lib.hid HS.out.wh.wf_
          clear HM HQ HB HS g3
          go_loopg [59] (dueT T2 now).length (fun gh jv wx => ∃ j : Nat, gh = (dueT T2 now).length - j ∧ j ≤ (dueT T2 now).length ∧ jv = .int .i64 j ∧ Ws wx g b (restT T2 now) ∧ Mp wx mb T ∧ St wx sb (S ++ keysOf ((dueT T2 now).take j)) ∧ Rd 1 wx ax (dueT T2 now).length cx (nums .u64 (keysOf (dueT T2 now))) ∧ RowKit.Below w.heap.size w wx)
          case atStart => exact ⟨0, rfl, by omega, rfl, S3.out, M3.out, by simpa [keysOf] using Q3.out, own_rd O3.out, BB3.out⟩
          case round =>
            clear S3 M3 Q3 BB3 O3
            obtain ⟨j, rfl, hj, rfl, hS, hM, hQ, hRd, hB⟩ := hrel
            have HS := Lib.hid hS; clear hS
            have HM := Lib.hid hM; clear hM
            have HQ := Lib.hid hQ; clear hQ
            have HB := Lib.hid hB; clear hB
            have HRD := Lib.hid hRd; clear hRd
            by_cases hjl : j < (dueT T2 now).length
            · obtain ⟨kb, koff, rfl, hkb, hkc⟩ := HRD.out.2.2.2 (by omega)
              obtain ⟨p, hp⟩ : ∃ p, (dueT T2 now)[j]? = some p := ⟨_, List.getElem?_eq_getElem hjl⟩
              have y0 := hkc j (.int .u64 p.1) (by unfold nums keysOf; rw [List.getElem?_map, List.getElem?_map, hp]; rfl)
              clear hkc
              have hpd : p ∈ dueT T2 now := List.mem_of_getElem? hp
              obtain ⟨hp2, hpn⟩ := (dueT_mem hsr2 now p).1 hpd
              have hpi := (hwf2.out p hp2).1
              have htk : (dueT T2 now).take (j + 1) = (dueT T2 now).take j ++ [p] := by
                obtain ⟨_, rfl⟩ := List.getElem?_eq_some_iff.1 hp; exact List.take_succ_eq_append_getElem hjl
              have hnot : p.1 ∉ S ++ keysOf ((dueT T2 now).take j) := by
                rw [List.mem_append, HSE.out.mem]
                rintro (⟨_, h⟩ | h)
                · exact h (mem_keysOf.2 ⟨p.2, hp2⟩)
                · have hs := due_split hnd2 now
                  rw [hs, List.nodup_append] at hnd2
                  have h1 : (keysOf ((dueT T2 now).take (j + 1))).Nodup := by
                    have := hnd2.1
                    unfold keysOf at this ⊢
                    exact this.sublist ((List.take_sublist _ _).map _)
                  rw [htk, keysOf_append, List.nodup_append] at h1
                  exact h1.2.2 _ h _ (by simp [keysOf]) rfl
              have hva : valOf T p.1 = p.2 := valOf_sub HSE.out hp2
              have l1 := HQ.out.look hpi
              rw [decide_eq_false hnot] at l1
              have l2 := HM.out.look hpi
              rw [hva] at l2
              have hpn' : ¬ now < p.2 := by omega
              have hkey : keyOf Try.prog 22 (.int .u64 p.1) = some (K64 p.1) := keyOf_int_mk Try.underlying22 hpi.wf
              obtain ⟨DS, hownS, hTS⟩ := HQ.out
              have hSl : (S ++ keysOf ((dueT T2 now).take j)).length < maxLen := by
                have := HSE.out.len
                rw [List.length_append, keysOf_length, List.length_take]; unfold maxLen; omega
              have HTK := Lib.hid htk; clear htk
              have HNOT := Lib.hid hnot; clear hnot
              have HTS := Lib.hid hTS; clear hTS
              clear hva hp hpd hp2
              go_wp2_with (first
                | (at_mapUpdate; refine wpList_mapUpdate_in _ rfl _ _ _ 71 rfl 22 4 lawU Try.underlying71 _ sb _ DS rfl hownS hSl _ _ _ rfl rfl hkey _ [] (plainElem_bool Try.underlying4 true) ?_; intro w4 hown4 hturn4)
                | go_in)
              have q4 := St.put HTS.out HNOT.out hown4
              have hg4 := hturn4.grown
              go_roundg ((dueT T2 now).length - (j + 1))
              case measure => omega
              case rel =>
                refine ⟨j + 1, rfl, by omega, by go_num, HS.out.kept hg4 (by omega) (by omega), HM.out.kept hg4 (by simp; omega), ?_, Rd.keptM (by decide) HRD.out (fun off => HQ.out.no_cell off) hg4, below_grown HB.out hg4 hsb⟩
                rw [HTK.out, keysOf_append, ← List.append_assoc]; exact q4
            · have hje : j = (dueT T2 now).length := by omega
              subst hje
              have hQ := HQ.out
              rw [List.take_length] at hQ
              have HQ := Lib.hid hQ; clear hQ
              have HSE2 := Lib.hid (HSE.out.step now)
              obtain ⟨DM, hownM, hTM⟩ := HM.out
              have HTM := Lib.hid hTM; clear hTM
              clear HRD
              go_wp2_with (first
                | (at_range; refine wpList_range_own _ rfl _ 66 rfl 22 22 lawU Try.underlying66 _ mb T.length DM rfl hownM ?_; intro w5 hrg hg5 hs5)
                | go_in)
              go_frame
              have hbw5 : RowKit.Below wr.heap.size wr w5 := ⟨hg5.os, hg5.tape, hg5.output, hg5.size, fun i hi => hg5.block i hi (by simp)⟩
              have S5 := Lib.hid (HS.out.of_below hbw5)
              have M5 := Lib.hid (HM.out.of_below hbw5)
              have Q5 := Lib.hid (HQ.out.of_below hbw5)
              have BB5 := Lib.hid (below_step HB.out HB.out.size hbw5)
              have r1 := HS.out.wh.blk.lt
              have r2 := HS.out.wh.lt
              have r3 := HM.out.lt
              have r4 := HQ.out.lt
              have r5 := HB.out.size
              clear HS HM HQ HB hbw5 hg5 hs5
              generalize wr.heap.size = rr at *
              go_loopg [78] (Maps.size DM) (fun gh _ wx => ∃ (left : Lit → Bool) (cnt : Nat), gh = cnt ∧ wx.ranges Try.prog 22 (plainElem Try.prog 22) mb rr T.length DM left cnt ∧ Ws wx g b (restT T2 now) ∧ Mp wx mb T ∧ St wx sb (S ++ keysOf (dueT T2 now)) ∧ RowKit.Below w.heap.size w wx)
              case atStart => exact ⟨_, _, rfl, hrg, S5.out, M5.out, Q5.out, BB5.out⟩
              case round =>
                clear S5 M5 Q5 BB5 hrg
                obtain ⟨left, cnt, rfl, hrg, hS, hM, hQ, hB⟩ := hrel
                have HS := Lib.hid hS; clear hS
                have HM := Lib.hid hM; clear hM
                have HQ := Lib.hid hQ; clear hQ
                have HB := Lib.hid hB; clear hB
                go_wp2_with (first
                  | (at_next; refine wpList_next_ranges_ii _ rfl _ rfl 22 22 .u64 .u64 lawU Try.underlying22 Try.underlying22 mb rr T.length DM left _ rfl hrg ?_ ?_)
                  | go_in)
                · intro hc0 hl0
                  clear hl0
                  go_wp2
                  go_roundg (ls.length - (i + 1))
                  case measure => omega
                  case rel => exact ⟨i + 1, restT T2 now, S ++ keysOf (dueT T2 now), rfl, by omega, by go_num, HSE2.out, HS.out, HM.out, HQ.out, HB.out⟩
                · intro x c w6 cnt2 hwx hwc hlk hat hrg2 hlt6 hg6 hs6 hen
                  have hxc : (x, c) ∈ T := HTM.out.pair hat
                  have hS6 := Lib.hid (HS.out.kept hg6 (by omega) (by omega))
                  have hM6 := Lib.hid (HM.out.kept hg6 (by simp; omega))
                  have hQ6 := Lib.hid (HQ.out.kept hg6 (by simp; omega))
                  have hB6 := Lib.hid (below_grown HB.out hg6 r5)
                  have HRG := Lib.hid hrg2; clear hrg2 hrg
                  have hxi := (HWF0.out _ hxc).1
                  have l1 := hQ6.out.look hxi
                  clear hat hlk hs6 hg6
                  by_cases hcn : c ≤ now
                  · have hxs : x ∈ S ++ keysOf (dueT T2 now) := by
                      rw [HSE2.out.mem]
                      refine ⟨mem_keysOf.2 ⟨c, hxc⟩, fun h => ?_⟩
                      obtain ⟨v, hv⟩ := mem_keysOf.1 h
                      have h1 := HSE2.out.sub _ hv
                      have h2 := valOf_mem HSE2.out.nodup0 h1
                      have h3 := valOf_mem HSE2.out.nodup0 hxc
                      have h4 := ((restT_mem hsr2 now (x, v)).1 hv).2
                      dsimp only at h4
                      omega
                    rw [decide_eq_true hxs] at l1
                    clear hxs hxc
                    go_wp2
                    go_roundg cnt2
                    case measure => exact hlt6
                    case rel => exact ⟨_, cnt2, rfl, HRG.out, hS6.out, hM6.out, hQ6.out, hB6.out⟩
                  · have hcn' : decide (c ≤ now) = false := decide_eq_false hcn
                    clear hxc l1
                    go_wp2
                    go_roundg cnt2
                    case measure => exact hlt6
                    case rel => exact ⟨_, cnt2, rfl, HRG.out, hS6.out, hM6.out, hQ6.out, hB6.out⟩
        · obtain ⟨DM, hownM, hTM⟩ := HM.out
          obtain ⟨DS, hownS, hTS⟩ := HQ.out
          have hlM : ∀ ty, (Builtin.len_ #[66] ty #[.map (some mb)]).run Try.prog wr = .ok (.int .i64 T.length) wr := fun ty => by rw [hownM.len Try.underlying66 ty, hTM.size_]
          have hlS : ∀ ty, (Builtin.len_ #[71] ty #[.map (some sb)]).run Try.prog wr = .ok (.int .i64 S.length) wr := fun ty => by rw [hownS.len Try.underlying71 ty, hTS.size_]
          have hw : IntKind.i64.wrap ((T.length : Int) - (S.length : Int)) = (T2.length : Int) := by rw [IntKind.wrap_i64]; have := HSE.out.len; omega
          clear hownM hownS hTM hTS
          go_wp2_with (go_at_call 38; refine (wheel_LenS g b _ _ HS.out).mono ?_; rintro e w9 ⟨rfl, rfl⟩)
          go_ret
          exact ⟨rfl, HB.out⟩
end Go.Proofs.Ytlfnoailaoiedaa
