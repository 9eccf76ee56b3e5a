/- The walk of layer 5's law WheelAgain. -/
import Derived.Test.YtlfnoailaoiedaaLawWheelF
namespace Go.Proofs.Ytlfnoailaoiedaa
open Go.RowKit Go.Maps
set_option linter.unusedVariables false
set_option linter.unusedSimpArgs false

set_option maxHeartbeats 400000 in
theorem slices_Contains_u64 (a : Option Addr) (cap : Nat) (xs : List Int) (n : Int) (w : World) (h : Sl .u64 w a cap xs) (hl : xs.length ≤ 1000000) :
    Calls Try.prog 42 #[.slice a xs.length cap, .int .u64 n] w fun e w' => e = .returned (.bool (decide (n ∈ xs))) ∧ w = w' := by
  have hi := slices_Index_u64 a cap xs n w h (by omega)
  by_cases hm : n ∈ xs
  · have h0 : 0 ≤ idxI xs n := by have := (not_congr (idxI_neg (xs := xs) (n := n))).2 (by simpa using hm); omega
    rw [decide_eq_true hm]
    clear hm
    generalize idxI xs n = i at *
    go_enter Try.func42, Try.ntmps42
    go_wp2_with (go_at_call 98; refine hi.mono ?_; rintro e w' ⟨rfl, rfl⟩)
    go_ret
    exact ⟨rfl, rfl⟩
  · have h0 : ¬ 0 ≤ idxI xs n := by have := (idxI_neg (xs := xs) (n := n)).2 hm; omega
    rw [decide_eq_false hm]
    clear hm
    generalize idxI xs n = i at *
    have h1 : decide (0 ≤ i) = false := decide_eq_false h0
    go_enter Try.func42, Try.ntmps42
    go_wp2_with (go_at_call 98; refine hi.mono ?_; rintro e w' ⟨rfl, rfl⟩)
    go_ret
    exact ⟨rfl, rfl⟩
theorem due_due (T : List (Int × Int)) {x y : Int} (h : x ≤ y) : dueT T x ++ dueT (restT T x) y = dueT T y := by
  induction T with
  | nil => rfl
  | cons p T ih =>
    by_cases e : p.2 ≤ x
    · have e' : p.2 ≤ y := by omega
      have a : dueT (p :: T) x = p :: dueT T x := by simp [dueT, e]
      have b : restT (p :: T) x = restT T x := by simp [restT, e]
      have c : dueT (p :: T) y = p :: dueT T y := by simp [dueT, e']
      rw [a, b, c, List.cons_append, ih]
    · have a : dueT (p :: T) x = [] := by simp [dueT, e]
      have b : restT (p :: T) x = p :: T := by simp [restT, e]
      rw [a, b, List.nil_append]
theorem mem_armT_self (T : List (Int × Int)) (k v : Int) : (k, cAdd v 0) ∈ armT T k v := (armT_perm T k v).mem_iff.1 List.mem_cons_self
theorem cAdd_le {v : Int} (h : v ≤ 1152921504606846976) : cAdd v 0 = v := by unfold cAdd; split <;> omega

set_option maxRecDepth 100000 in
set_option maxHeartbeats 4000000 in
theorem law_WheelAgain (a : Option Addr) (m mcap : Nat) (zs : List WAct) (key x y : Int) (w : World) (hz : WActsIn w a m zs) (hk0 : 0 ≤ key) (hk1 : key < 18446744073709551616) (hx0 : 0 ≤ x) (hx1 : x < 18446744073709551616) (hy0 : 0 ≤ y) (hy1 : y < 18446744073709551616) :
    Calls Try.prog 6 #[.slice a m mcap, .int .u64 key, .int .u64 x, .int .u64 y] w fun e w' => e = .returned (.bool true) ∧ RowKit.Below w.heap.size w w' := by
  obtain ⟨hzl, hm, hzwf, hzc⟩ := hz
  by_cases hbig : 60 < m
  · go_enter Try.func6, Try.ntmps6
    go_wp2_with (first | (go_at_call 34; refine (law05_awake _).mono ?_; rintro e w' ⟨rfl, hb⟩))
    go_ret
    exact ⟨rfl, hb⟩
  by_cases hxb : 1152921504606846976 < x
  · go_enter Try.func6, Try.ntmps6
    go_wp2_with (first | (go_at_call 34; refine (law05_awake _).mono ?_; rintro e w' ⟨rfl, hb⟩))
    go_ret
    exact ⟨rfl, hb⟩
  by_cases hyb : 1152921504606846976 < y
  · go_enter Try.func6, Try.ntmps6
    go_wp2_with (first | (go_at_call 34; refine (law05_awake _).mono ?_; rintro e w' ⟨rfl, hb⟩))
    go_ret
    exact ⟨rfl, hb⟩
  have HWF := Lib.hid hzwf; clear hzwf
  have HZC := Lib.hid hzc; clear hzc
  have HZL := Lib.hid hzl; clear hzl
  go_enter Try.func6, Try.ntmps6
  go_wp2_with (first | (go_at_call 34; refine (law05_awake _).mono ?_; rintro e w0 ⟨rfl, hb0⟩) | (go_at_call 35; refine (wheel_NewS _).mono ?_; rintro e w1 ⟨g, b, rfl, s1, hg1, hb1, B1⟩))
  go_loopg [34] (m : Nat) (fun gh iv wr => ∃ (k : Nat) (T : List (Int × Int)), gh = m - k ∧ k ≤ m ∧ iv = .int .i64 k ∧ T.length ≤ k ∧ Ws wr g b T ∧ RowKit.Below w.heap.size w wr)
  case atStart => exact ⟨0, [], by omega, by omega, rfl, by simp, s1, below_step hb0 hb0.size B1⟩
  case round =>
    obtain ⟨k, T, rfl, hk, rfl, hTk, hS, hB⟩ := hrel
    have hbb : w.heap.size ≤ b := by have := hb0.size; omega
    clear s1 B1 hb0
    by_cases hlt : k < m
    · obtain ⟨ab, aoff, rfl, hab, hcs⟩ := HZC.out (by omega)
      obtain ⟨c0', c1', c2'⟩ := hcs k hlt
      have c0 := (hB.cell (p := ⟨ab, aoff + k * 3, none⟩) hab).trans c0'
      have c1 := (hB.cell (p := ⟨ab, aoff + k * 3 + 1, none⟩) hab).trans c1'
      have c2 := (hB.cell (p := ⟨ab, aoff + k * 3 + 2, none⟩) hab).trans c2'
      obtain ⟨q0, q1, q2, q3, q4, q5⟩ := HWF.out (zs.getD k default) (getD_mem (by have := HZL.out; omega))
      clear c0' c1' c2' hcs
      generalize zs.getD k default = A at *
      obtain ⟨ado, ak, aa⟩ := A
      dsimp only at c0 c1 c2 q0 q1 q2 q3 q4 q5
      have hBW : RowKit.Below wr.heap.size wr (wr.alloc (.cells #[.int .u8 ado, .int .u64 ak, .int .u64 aa] 68)) := (RowKit.Below.refl _ _).alloc (Nat.le_refl _) _
      have hT1 : T.length < 1024 := by omega
      have hc := wheel_ArmAny g b T ak aa _ (hS.of_below hBW) ⟨q2, q3⟩ ⟨q4, q5⟩ hT1
      have HC := Lib.hid hc; clear hc hS
      have HBW := Lib.hid hBW; clear hBW
      go_wp2_with (go_at_call 36; refine HC.out.mono ?_; rintro e w3 ⟨rfl, s3, g3⟩)
      go_roundg (m - (k + 1))
      case measure => omega
      case rel => exact ⟨k + 1, armT T ak aa, rfl, by omega, by go_num, by have := armT_le T ak aa; omega, s3, below_grown (below_step hB hB.size HBW.out) g3 hbb⟩
    · have hT1 : T.length < 1024 := by omega
      have HS := Lib.hid hS; clear hS
      have hKI : In64 key := ⟨hk0, hk1⟩
      have hXI : In64 x := ⟨hx0, hx1⟩
      have hYI : In64 y := ⟨hy0, hy1⟩
      have hbl := HS.out.wh.lt
      go_wp2_with fail
      refine (wheel_CloneS g b T wr HS.out).mono ?_
      rintro e w2 ⟨gp, bp, rfl, sp, hgp, hbp, B2⟩
      have s2 := HS.out.of_below B2
      have b2 := below_step hB hB.size B2
      go_wp2_with fail
      refine (wheel_CloneS g b T w2 s2).mono ?_
      rintro e w3 ⟨gq, bq, rfl, sq, hgq, hbq, B3⟩
      have s3 := s2.of_below B3
      have sp3 := sp.of_below B3
      have b3 := below_step b2 b2.size B3
      have hbp3 := sp3.wh.lt
      have hgp3 := sp3.wh.blk.lt
      have hgl := s2.wh.blk.lt
      have hbl2 := s2.wh.lt
      have hbpl := sp.wh.lt
      have hgpl := sp.wh.blk.lt
      have hS0 := HS
      clear HS sp s2
      have hbpw : w.heap.size ≤ bp := by have := hB.size; omega
      have hbqw : w.heap.size ≤ bq := by have := b2.size; omega
      have hgbp : g ≠ bp := by have := hS0.out.wh.blk.lt; omega
      have hbbp : b ≠ bp := by omega
      have hgqp : gq ≠ bp := by omega
      have hbqp : bq ≠ bp := by omega
      have hgbq : g ≠ bq := by omega
      have hbbq : b ≠ bq := by omega
      have S3 := Lib.hid s3; clear s3
      have SP := Lib.hid sp3; clear sp3
      have SQ := Lib.hid sq; clear sq
      have B3' := Lib.hid b3; clear b3
      go_upto_region 12 with fail
      go_cut [66] from 49 to 66 (fun v66 wx => v66 = .bool false ∧ Ws wx g b T ∧ RowKit.Below w.heap.size w wx)
      case first =>
        by_cases hxy : x ≤ y
        · have hxy' : ¬ y < x := by omega
          have hmn : min x y = x := by omega
          have hmx : max x y = y := by omega
          have hle : x ≤ y := by omega
          have hd0 := dueT_le T x
          have hd1 := dueT_le (restT T x) y
          have hd2 := restT_le T x
          have hd3 := dueT_le T y
          go_wp2_with fail
          refine (wheel_Due gp bp T x _ SP.out (by omega)).mono ?_
          rintro e w4 ⟨a4, c4, rfl, o4, p4, g4⟩
          have s4 := S3.out.kept g4 hgbp hbbp
          have q4 := SQ.out.kept g4 hgqp hbqp
          have B4 := below_grown B3'.out g4 hbpw
          have hz4 := g4.size
          have HP4 := Lib.hid p4; clear p4
          have HO4 := Lib.hid o4; clear o4
          go_wp2_with fail
          refine (wheel_Due gp bp (restT T x) y _ HP4.out (by omega)).mono ?_
          rintro e w5 ⟨a5, c5, rfl, o5, p5, g5⟩
          have s5 := s4.kept g5 hgbp hbbp
          have q5 := q4.kept g5 hgqp hbqp
          have B5 := below_grown B4 g5 hbpw
          have hz5 := g5.size
          have o4' := HO4.out.kept g5 (by by_cases e : (Value.slice a4 (dueT T x).length c4).ownBlock = none
                                          · exact .inl e
                                          · exact .inr fun e' => by have := own_base HO4.out bp e'; omega)
          have HR5 := Lib.hid (own_rd o5); clear o5
          have HO4' := Lib.hid o4'; clear o4'
          have hbyt : ((dueT T x).length + (dueT (restT T x) y).length) * 8 ≤ 140737488355328 := by omega
          have h63 : (dueT T x).length + (dueT (restT T x) y).length ≤ 9223372036854775807 := by omega
          have hb5 : w3.heap.size ≤ w5.heap.size := by omega
          have e1 : nums .u64 (keysOf (dueT T x)) ++ nums .u64 (keysOf (dueT (restT T x) y)) = nums .u64 (keysOf (dueT T y)) := by rw [← due_due T hle, keysOf_append]; simp [nums]
          have e2 : (dueT T x).length + (dueT (restT T x) y).length = (dueT T y).length := by rw [← due_due T hle]; simp
          have E1 := Lib.hid e1; clear e1
          have E2 := Lib.hid e2; clear e2
          go_wp2_with (at_builtin; refine app_own w5 rfl (.tmp 53) (.tmp 58) 46 rfl w3.heap.size 22 (.int .u64 0) 1 8 Try.underlying46 Try.infoU rfl (by decide) (.slice a4 (dueT T x).length c4) (dueT T x).length _ rfl HO4'.out a5 (dueT (restT T x) y).length c5 _ rfl HR5.out (nums_one _ _) h63 hbyt hb5 ?_; intro A6 c6 w6 h6 g6 k6; rw [E1.out, E2.out] at h6; rw [E2.out]; clear k6; have HO6 := Lib.hid h6; clear h6)
          have hne : ∀ z, z < w3.heap.size → some z ≠ (Value.slice a4 (dueT T x).length c4).ownBlock := fun z hz e => by have := own_base HO4'.out z e.symm; omega
          have hgl3 := S3.out.wh.blk.lt
          have hbl3 := S3.out.wh.lt
          have hgq3 := SQ.out.wh.blk.lt
          have hbq3 := SQ.out.wh.lt
          have s6 : Ws w6 g b T := ⟨s5.wh.kept g6 (hne g hgl3) (hne b hbl3), s5.srt⟩
          have q6 : Ws w6 gq bq T := ⟨q5.wh.kept g6 (hne gq hgq3) (hne bq hbq3), q5.srt⟩
          have B6 : RowKit.Below w.heap.size w w6 := B5.grown g6 B5.size (fun j hj => by have := own_base HO4'.out j hj; omega)
          refine (wheel_Due gq bq T y _ q6 (by omega)).mono ?_
          rintro e w7 ⟨a7, c7, rfl, o7, q7, g7⟩
          have s7 := s6.kept g7 hgbq hbbq
          have B7 := below_grown B6 g7 hbqw
          have hs1 : Sl .u64 w7 A6 c6 (keysOf (dueT T y)) := by
            unfold Sl; rw [keysOf_length]
            exact Rd.kept (by decide) (own_rd HO6.out) q6.wh g7
          have hs2 : Sl .u64 w7 a7 c7 (keysOf (dueT T y)) := by unfold Sl; rw [keysOf_length]; exact own_rd o7
          have hq := slices_Equal_u64 A6 a7 c6 c7 (keysOf (dueT T y)) (keysOf (dueT T y)) w7 hs1 hs2 (by rw [keysOf_length]; omega) (by rw [keysOf_length]; omega)
          rw [keysOf_length] at hq
          have HQ := Lib.hid hq; clear hq hs1 hs2 o7 q7 q6 q5 q4
          have S7 := Lib.hid s7; clear s7 s6 s5 s4
          go_wp2_with (go_at_call 31; refine HQ.out.mono ?_; rintro e w8 ⟨rfl, q, rfl⟩)
          go_meet
          have hd := below_drewN (RowKit.Below.refl w7.heap.size w7) q
          exact ⟨rfl, S7.out.of_below hd, below_drewN B7 q⟩
        · have hxy' : y < x := by omega
          have hmn : min x y = y := by omega
          have hmx : max x y = x := by omega
          have hle : y ≤ x := by omega
          have hd0 := dueT_le T y
          have hd1 := dueT_le (restT T y) x
          have hd2 := restT_le T y
          have hd3 := dueT_le T x
          go_wp2_with fail
          refine (wheel_Due gp bp T y _ SP.out (by omega)).mono ?_
          rintro e w4 ⟨a4, c4, rfl, o4, p4, g4⟩
          have s4 := S3.out.kept g4 hgbp hbbp
          have q4 := SQ.out.kept g4 hgqp hbqp
          have B4 := below_grown B3'.out g4 hbpw
          have hz4 := g4.size
          have HP4 := Lib.hid p4; clear p4
          have HO4 := Lib.hid o4; clear o4
          go_wp2_with fail
          refine (wheel_Due gp bp (restT T y) x _ HP4.out (by omega)).mono ?_
          rintro e w5 ⟨a5, c5, rfl, o5, p5, g5⟩
          have s5 := s4.kept g5 hgbp hbbp
          have q5 := q4.kept g5 hgqp hbqp
          have B5 := below_grown B4 g5 hbpw
          have hz5 := g5.size
          have o4' := HO4.out.kept g5 (by by_cases e : (Value.slice a4 (dueT T y).length c4).ownBlock = none
                                          · exact .inl e
                                          · exact .inr fun e' => by have := own_base HO4.out bp e'; omega)
          have HR5 := Lib.hid (own_rd o5); clear o5
          have HO4' := Lib.hid o4'; clear o4'
          have hbyt : ((dueT T y).length + (dueT (restT T y) x).length) * 8 ≤ 140737488355328 := by omega
          have h63 : (dueT T y).length + (dueT (restT T y) x).length ≤ 9223372036854775807 := by omega
          have hb5 : w3.heap.size ≤ w5.heap.size := by omega
          have e1 : nums .u64 (keysOf (dueT T y)) ++ nums .u64 (keysOf (dueT (restT T y) x)) = nums .u64 (keysOf (dueT T x)) := by rw [← due_due T hle, keysOf_append]; simp [nums]
          have e2 : (dueT T y).length + (dueT (restT T y) x).length = (dueT T x).length := by rw [← due_due T hle]; simp
          have E1 := Lib.hid e1; clear e1
          have E2 := Lib.hid e2; clear e2
          go_wp2_with (at_builtin; refine app_own w5 rfl (.tmp 53) (.tmp 58) 46 rfl w3.heap.size 22 (.int .u64 0) 1 8 Try.underlying46 Try.infoU rfl (by decide) (.slice a4 (dueT T y).length c4) (dueT T y).length _ rfl HO4'.out a5 (dueT (restT T y) x).length c5 _ rfl HR5.out (nums_one _ _) h63 hbyt hb5 ?_; intro A6 c6 w6 h6 g6 k6; rw [E1.out, E2.out] at h6; rw [E2.out]; clear k6; have HO6 := Lib.hid h6; clear h6)
          have hne : ∀ z, z < w3.heap.size → some z ≠ (Value.slice a4 (dueT T y).length c4).ownBlock := fun z hz e => by have := own_base HO4'.out z e.symm; omega
          have hgl3 := S3.out.wh.blk.lt
          have hbl3 := S3.out.wh.lt
          have hgq3 := SQ.out.wh.blk.lt
          have hbq3 := SQ.out.wh.lt
          have s6 : Ws w6 g b T := ⟨s5.wh.kept g6 (hne g hgl3) (hne b hbl3), s5.srt⟩
          have q6 : Ws w6 gq bq T := ⟨q5.wh.kept g6 (hne gq hgq3) (hne bq hbq3), q5.srt⟩
          have B6 : RowKit.Below w.heap.size w w6 := B5.grown g6 B5.size (fun j hj => by have := own_base HO4'.out j hj; omega)
          refine (wheel_Due gq bq T x _ q6 (by omega)).mono ?_
          rintro e w7 ⟨a7, c7, rfl, o7, q7, g7⟩
          have s7 := s6.kept g7 hgbq hbbq
          have B7 := below_grown B6 g7 hbqw
          have hs1 : Sl .u64 w7 A6 c6 (keysOf (dueT T x)) := by
            unfold Sl; rw [keysOf_length]
            exact Rd.kept (by decide) (own_rd HO6.out) q6.wh g7
          have hs2 : Sl .u64 w7 a7 c7 (keysOf (dueT T x)) := by unfold Sl; rw [keysOf_length]; exact own_rd o7
          have hq := slices_Equal_u64 A6 a7 c6 c7 (keysOf (dueT T x)) (keysOf (dueT T x)) w7 hs1 hs2 (by rw [keysOf_length]; omega) (by rw [keysOf_length]; omega)
          rw [keysOf_length] at hq
          have HQ := Lib.hid hq; clear hq hs1 hs2 o7 q7 q6 q5 q4
          have S7 := Lib.hid s7; clear s7 s6 s5 s4
          go_wp2_with (go_at_call 31; refine HQ.out.mono ?_; rintro e w8 ⟨rfl, q, rfl⟩)
          go_meet
          have hd := below_drewN (RowKit.Below.refl w7.heap.size w7) q
          exact ⟨rfl, S7.out.of_below hd, below_drewN B7 q⟩
      case rest =>
        clear S3 SP SQ B3' B3 b2 hB B2
        obtain ⟨rfl, hS, hB⟩ := hcut
        have hT2l : (armT T key x).length < 1024 := by have := armT_le T key x; omega
        have hT3l : (armT (armT T key x) key y).length ≤ 90000 := by have := armT_le (armT T key x) key y; omega
        go_wp2_with fail
        refine (wheel_ArmAny g b T key x _ hS hKI hXI hT1).mono ?_
        rintro e w4 ⟨rfl, s4, g4⟩
        have B4 := below_grown hB g4 hbb
        go_wp2_with fail
        refine (wheel_ArmAny g b _ key y _ s4 hKI hYI hT2l).mono ?_
        rintro e w5 ⟨rfl, s5, g5⟩
        have B5 := below_grown B4 g5 hbb
        have hmem : (key, y) ∈ armT (armT T key x) key y := by have := mem_armT_self (armT T key x) key y; rwa [cAdd_le (by omega)] at this
        generalize armT (armT T key x) key y = T2 at *
        have hval : valOf T2 key = y := valOf_mem s5.nodup hmem
        have hin : key ∈ keysOf T2 := mem_keysOf.2 ⟨y, hmem⟩
        have hat := wheel_At g b T2 key w5 s5.wh hKI
        rw [hval, decide_eq_true hin] at hat
        clear hS s4
        have HM := Lib.hid hmem; clear hmem hval
        have HI := Lib.hid hin; clear hin
        have HAT := Lib.hid hat; clear hat
        go_wp2_with (go_at_call 40; refine HAT.out.mono ?_; rintro e w6 ⟨rfl, rfl⟩)
        refine (wheel_CloneS g b T2 w5 s5).mono ?_
        rintro e w6 ⟨gc, bc, rfl, sc, hgc, hbc, B6⟩
        have s6 := s5.of_below B6
        have b6 := below_step B5 B5.size B6
        have hgl5 := s5.wh.blk.lt
        have hbl5 := s5.wh.lt
        have hbcw : w.heap.size ≤ bc := by have := B5.size; omega
        have S6 := Lib.hid s6; clear s6 s5
        have SC := Lib.hid sc; clear sc
        have hdis := wheel_DisarmS gc bc T2 key w6 SC.out hKI
        rw [decide_eq_true HI.out] at hdis
        have HD := Lib.hid hdis; clear hdis
        go_wp2_with (go_at_call 41; refine HD.out.mono ?_; rintro e w7 ⟨rfl, sd, g7⟩)
        have hgbc : g ≠ bc := by omega
        have hbbc : b ≠ bc := by omega
        have s7 := S6.out.kept g7 hgbc hbbc
        have b7 := below_grown b6 g7 hbcw
        have hdis2 := wheel_DisarmS gc bc (strike T2 key) key w7 sd hKI
        rw [decide_eq_false (not_strike T2 key)] at hdis2
        clear sd
        have HD2 := Lib.hid hdis2; clear hdis2
        have HS7 := Lib.hid s7; clear s7
        go_wp2_with fail
        refine HD2.out.mono ?_
        rintro e w8 ⟨rfl, sd8, g8⟩
        have s8 := HS7.out.kept g8 hgbc hbbc
        have b8 := below_grown b7 g8 hbcw
        have hle1 : (strike (strike T2 key) key).length ≤ 90000 := by have := strike_le (strike T2 key) key; have := strike_le T2 key; omega
        generalize hTT : strike (strike T2 key) key = TT at *
        have hkTT : key ∉ keysOf TT := by rw [← hTT]; exact not_strike _ _
        clear hTT
        have HS8 := Lib.hid s8; clear s8
        have SD8 := Lib.hid sd8; clear sd8
        have HKTT := Lib.hid hkTT; clear hkTT
        have hd1 := dueT_le TT 1152921504606846976
        go_wp2_with fail
        refine (wheel_Due gc bc TT 1152921504606846976 w8 SD8.out hle1).mono ?_
        rintro e w9 ⟨a9, c9, rfl, o9, sd9, g9⟩
        have s9 := HS8.out.kept g9 hgbc hbbc
        have b9 := below_grown b8 g9 hbcw
        clear sd9
        have hn9 : key ∉ keysOf (dueT TT 1152921504606846976) := fun h => by
          obtain ⟨v, hv⟩ := mem_keysOf.1 h
          exact HKTT.out (mem_keysOf.2 ⟨v, (List.takeWhile_sublist _).mem hv⟩)
        have hc9 := slices_Contains_u64 a9 c9 (keysOf (dueT TT 1152921504606846976)) key w9 (by unfold Sl; rw [keysOf_length]; exact own_rd o9) (by rw [keysOf_length]; omega)
        rw [keysOf_length, decide_eq_false hn9] at hc9
        clear o9 hn9
        have HC9 := Lib.hid hc9; clear hc9
        have HS9 := Lib.hid s9; clear s9
        go_wp2_with fail
        refine HC9.out.mono ?_
        rintro e w10 ⟨rfl, rfl⟩
        have hd2 := dueT_le T2 y
        have hr2 := restT_le T2 y
        go_wp2_with fail
        refine (wheel_Due g b T2 y w9 HS9.out hT3l).mono ?_
        rintro e w11 ⟨a11, c11, rfl, o11, s11, g11⟩
        have b11 := below_grown b9 g11 hbb
        have hn11 : key ∈ keysOf (dueT T2 y) := mem_keysOf.2 ⟨y, (dueT_mem HS9.out.srt y (key, y)).2 ⟨HM.out, Int.le_refl _⟩⟩
        have hc11 := slices_Contains_u64 a11 c11 (keysOf (dueT T2 y)) key w11 (by unfold Sl; rw [keysOf_length]; exact own_rd o11) (by rw [keysOf_length]; omega)
        rw [keysOf_length, decide_eq_true hn11] at hc11
        clear o11 hn11
        have HC11 := Lib.hid hc11; clear hc11
        have HS11 := Lib.hid s11; clear s11
        go_wp2_with fail
        refine HC11.out.mono ?_
        rintro e w12 ⟨rfl, rfl⟩
        have hd3 := dueT_le (restT T2 y) 1152921504606846976
        have hle3 : (restT T2 y).length ≤ 90000 := by omega
        go_wp2_with fail
        refine (wheel_Due g b (restT T2 y) 1152921504606846976 w11 HS11.out hle3).mono ?_
        rintro e w13 ⟨a13, c13, rfl, o13, s13, g13⟩
        have b13 := below_grown b11 g13 hbb
        have hn13 : key ∉ keysOf (dueT (restT T2 y) 1152921504606846976) := fun h => by
          obtain ⟨v, hv⟩ := mem_keysOf.1 h
          have h1 := (restT_mem HS9.out.srt y (key, v)).1 ((List.takeWhile_sublist _).mem hv)
          have h2 := valOf_mem HS9.out.nodup h1.1
          have h3 := valOf_mem HS9.out.nodup HM.out
          have h4 := h1.2
          dsimp only at h4
          omega
        have hc13 := slices_Contains_u64 a13 c13 (keysOf (dueT (restT T2 y) 1152921504606846976)) key w13 (by unfold Sl; rw [keysOf_length]; exact own_rd o13) (by rw [keysOf_length]; omega)
        rw [keysOf_length, decide_eq_false hn13] at hc13
        clear o13 hn13 s13
        have HC13 := Lib.hid hc13; clear hc13
        go_wp2_with fail
        refine HC13.out.mono ?_
        rintro e w14 ⟨rfl, rfl⟩
        go_wp2_with fail
        go_ret
        exact ⟨rfl, b13⟩
end Go.Proofs.Ytlfnoailaoiedaa
