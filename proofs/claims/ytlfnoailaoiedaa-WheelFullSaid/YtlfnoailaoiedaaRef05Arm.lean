/- The document's Arm of layer 5. -/
import Derived.Test.YtlfnoailaoiedaaRef05
namespace Go.Proofs.Ytlfnoailaoiedaa
open Go.RowKit Go.Maps
set_option linter.unusedVariables false
set_option linter.unusedSimpArgs false

set_option maxRecDepth 100000 in
set_option maxHeartbeats 2000000 in
theorem ref05_Arm_full (a : Option Addr) (cap : Nat) (T : List (Int × Int)) (n v : Int) (w : World) (h : Tm w a cap T) (hl : T.length ≤ 100000) (hf : 1024 ≤ (strike T n).length) :
    Calls Try.prog 45 #[.slice a T.length cap, .int .u64 n, .int .u64 v] w fun e w' => e = .returned (.tuple #[.slice a T.length cap, .int .i64 11]) ∧ RowKit.Below w.heap.size w w' := by
  have hz : ((1024 : Int) ≤ ((strike T n).length : Int)) := by omega
  go_enter Try.func45, Try.ntmps45
  go_wp2_with (first | (go_at_call 43; refine (ref05_Without _ _ _ _ _ h hl).mono ?_; rintro e w1 ⟨a', cap', rfl, ho, hb⟩))
  go_ret2
  exact ⟨rfl, hb⟩

set_option maxRecDepth 100000 in
set_option maxHeartbeats 4000000 in
theorem ref05_Arm (a : Option Addr) (cap : Nat) (T : List (Int × Int)) (n v : Int) (w : World) (h : Tm w a cap T) (hl : T.length ≤ 100000) (hf : (strike T n).length < 1024) (hv0 : 0 ≤ v) (hv1 : v < 18446744073709551616) :
    Calls Try.prog 45 #[.slice a T.length cap, .int .u64 n, .int .u64 v] w fun e w' => ∃ a' cap', e = .returned (.tuple #[.slice a' (insT (strike T n) (n, cAdd v 0)).length cap', .int .i64 0]) ∧
      w'.ownsRow w.heap.size 88 2 (.slice a' (insT (strike T n) (n, cAdd v 0)).length cap') (insT (strike T n) (n, cAdd v 0)).length (tcells (insT (strike T n) (n, cAdd v 0))) ∧ RowKit.Below w.heap.size w w' := by
  have hz : ¬ ((1024 : Int) ≤ ((strike T n).length : Int)) := by omega
  have hcall := ref05_Without a cap T n w h hl
  obtain ⟨tv, htv⟩ : ∃ tv, tv = cAdd v 0 := ⟨_, rfl⟩
  have hadd := fun W => ref04_Add v 0 W hv0 hv1 (by omega) (by omega)
  rw [← htv] at hadd ⊢
  clear htv
  generalize hR : strike T n = R at *
  have hbool : ∃ B, decide (n ∈ keysOf T) = B := ⟨_, rfl⟩
  obtain ⟨B, hB0⟩ := hbool
  rw [hB0] at hcall
  clear hB0
  go_enter Try.func45, Try.ntmps45
  go_wp2_with (first | (go_at_call 43; refine hcall.mono ?_; clear hcall; rintro e w1 ⟨ra, rc, rfl, ho, hb⟩; have HO := Lib.hid ho; clear ho) | (go_at_call 105; refine (hadd _).mono ?_; rintro e w2 ⟨rfl, rfl⟩))
  go_loopw [11] (fun i wr => ∃ k : Nat, k ≤ R.length ∧ i = .int .i64 k ∧ (∀ p ∈ R.take k, ltT p (n, tv)) ∧ RowKit.Below (w1.heap.size + 1) (w1.alloc (.cells #[.int .u64 n, .int .u64 tv] 88)) wr) (fun i _ => R.length - (intOf i).toNat)
  case atStart => exact ⟨0, by omega, rfl, (fun p hp => by simp at hp), Below.refl _ _⟩
  case round =>
    obtain ⟨k, hk, rfl, hall, hB⟩ := hrel
    have HA := Lib.hid hall; clear hall
    have hsz := hB.size
    rw [size_alloc] at hsz
    have kt : Blk wr w1.heap.size 88 #[.int .u64 n, .int .u64 tv] := (Blk.new w1 88 #[.int .u64 n, .int .u64 tv]).below hB (by omega)
    have t0 := kt.cell 0
    have t1 := kt.cell 1
    have t2 := kt.lt
    simp only [List.getElem?_toArray, List.getElem?_cons_zero, List.getElem?_cons_succ] at t0 t1
    have hBw : RowKit.Below w1.heap.size w1 wr := ((Below.refl w1.heap.size w1).alloc (Nat.le_refl _) _).trans (hB.mono (by omega))
    have hrd : Rd 2 wr ra R.length rc (tcells R) := (own_rd HO.out).below hBw
    by_cases hlt : k < R.length
    · obtain ⟨b, off, rfl, hbs, hc⟩ := Tm.at_ (T := R) hrd (by omega)
      obtain ⟨p, hp⟩ : ∃ p, R[k]? = some p := ⟨_, List.getElem?_eq_getElem hlt⟩
      obtain ⟨c0, c1⟩ := hc k p hp
      clear hc
      have e1 : R.take (k + 1) = R.take k ++ [p] := by
        obtain ⟨_, rfl⟩ := List.getElem?_eq_some_iff.1 hp; exact List.take_succ_eq_append_getElem hlt
      have HP := Lib.hid hp; clear hp
      have HE1 := Lib.hid e1; clear e1
      have HRD := Lib.hid hrd; clear hrd
      obtain ⟨pk, pa⟩ := p
      dsimp only at c0 c1
      have go : ltT (pk, pa) (n, tv) → ∃ j : Nat, j ≤ R.length ∧ Value.int .i64 ((k : Int) + 1) = .int .i64 j ∧ (∀ p ∈ R.take j, ltT p (n, tv)) ∧ RowKit.Below (w1.heap.size + 1) (w1.alloc (.cells #[.int .u64 n, .int .u64 tv] 88)) wr.drew := fun hlt' => by
        refine ⟨k + 1, by omega, by go_num, fun q hq => ?_, ⟨hB.os, hB.tape, hB.output, hB.size, hB.block⟩⟩
        rw [HE1.out] at hq
        rcases List.mem_append.1 hq with hq | hq
        · exact HA.out q hq
        · rw [List.mem_singleton.1 hq]; exact hlt'
      have GO := Lib.hid go; clear go
      by_cases hx : pa < tv
      · go_wp2_with fail
        refine wp_region_class (fun w' => w' = wr.drew) (by kernel_rfl) (by kernel_rfl) rfl ?_
        repeat (first | go_big_quiet_skip | (go_big_quiet_want; first | (go_big_quiet_op; go_big_quiet_on) | (apply Exists.intro; refine ⟨fun w' hw' => ?_, ?_⟩; (obtain rfl := hw'; unfold Oper.quietAt; go_simp; first | done | exact ⟨rfl, rfl⟩ | exact rfl | fail); (go_simp; go_big_quiet_on))))
        refine wpQuiet_nil ?_
        intro wq hw'
        obtain rfl := hw'
        go_wp2
        go_roundw
        case rel => exact GO.out (.inl hx)
        case measure => simp [intOf]; omega
      · by_cases hy : pa = tv ∧ pk < n
        · obtain ⟨hy1, hy2⟩ := hy
          subst hy1
          go_wp2_with fail
          refine wp_region_class (fun w' => w' = wr.drew) (by kernel_rfl) (by kernel_rfl) rfl ?_
          repeat (first | go_big_quiet_skip | (go_big_quiet_want; first | (go_big_quiet_op; go_big_quiet_on) | (apply Exists.intro; refine ⟨fun w' hw' => ?_, ?_⟩; (obtain rfl := hw'; unfold Oper.quietAt; go_simp; first | done | exact ⟨rfl, rfl⟩ | exact rfl | fail); (go_simp; go_big_quiet_on))))
          refine wpQuiet_nil ?_
          intro wq hw'
          obtain rfl := hw'
          go_wp2
          go_roundw
          case rel => exact GO.out (.inr ⟨rfl, hy2⟩)
          case measure => simp [intOf]; omega
        · have hkc : k ≤ rc := by have := HRD.out.2.1; omega
          have hne : ¬ rc = k := by have := HRD.out.2.1; omega
          have hn : ¬ ltT (pk, pa) (n, tv) := by unfold ltT; dsimp only; omega
          have hins := insT_of HA.out (.inr ⟨_, HP.out, hn⟩)
          have HI := Lib.hid hins; clear hins
          by_cases hz2 : pa = tv
          · have hz3 : ¬ pk < n := fun h' => hy ⟨hz2, h'⟩
            subst hz2
            clear hy
            go_wp2_with fail
            refine wp_region_class (fun w' => w' = wr.drew) (by kernel_rfl) (by kernel_rfl) rfl ?_
            repeat (first | go_big_quiet_skip | (go_big_quiet_want; first | (go_big_quiet_op; go_big_quiet_on) | (apply Exists.intro; refine ⟨fun w' hw' => ?_, ?_⟩; (obtain rfl := hw'; unfold Oper.quietAt; go_simp; first | done | exact ⟨rfl, rfl⟩ | exact rfl | fail); (go_simp; go_big_quiet_on))))
            refine wpQuiet_nil ?_
            intro wq hw'
            obtain rfl := hw'
            have HRA := Lib.hid ((Tm.take (T := R) (show Tm wr.drew _ rc R from HRD.out) hk hkc (fun e => by cases e) : Rd 2 wr.drew (some ⟨b, off, none⟩) k rc (tcells (R.take k))))
            have b1 : (0 + k) * 16 ≤ 140737488355328 := by omega
            have b2 : 0 + k ≤ 9223372036854775807 := by omega
            have b3 : (k + 1) * 16 ≤ 140737488355328 := by omega
            have b4 : k + 1 ≤ 9223372036854775807 := by omega
            have b5 : (k + 1 + (R.length - k)) * 16 ≤ 140737488355328 := by omega
            have b6 : k + 1 + (R.length - k) ≤ 9223372036854775807 := by omega
            go_wp2_with (first
              | (at_builtin; refine app_own wr.drew rfl (.tmp 62) (.tmp 65) 79 rfl wr.heap.size 88 (.agg #[.int .u64 0, .int .u64 0]) 2 16 Try.underlying79 Try.infoT rfl (by decide) (.slice none 0 0) 0 [] rfl (World.ownsRow_nil _ _ _ _) _ _ _ (tcells (R.take k)) rfl HRA.out (tcells_one _) b2 b1 (Nat.le_refl _) ?_; intro A3 c3 w3 h3 g3 _; simp only [Nat.zero_add, List.nil_append] at h3; have H3 := Lib.hid h3; clear h3; have B3 : RowKit.Below wr.heap.size wr w3 := (show RowKit.Below wr.heap.size wr wr.drew from ⟨rfl, rfl, rfl, Nat.le_refl _, fun _ _ => rfl⟩).grown g3 (Nat.le_refl _) (fun j hj => by simp [Value.ownBlock] at hj); have hz3' := B3.size; have k3 := kt.below B3 t2; have p0 := k3.cell 0; have p1 := k3.cell 1; simp only [List.getElem?_toArray, List.getElem?_cons_zero, List.getElem?_cons_succ] at p0 p1; have k3l := k3.lt)
              | (at_builtin; refine app_one w3 rfl (.tmp 67) (.tmp 69) 79 rfl wr.heap.size 88 (.agg #[.int .u64 0, .int .u64 0]) 2 16 Try.underlying79 Try.infoT rfl (by decide) (.slice A3 k c3) k _ rfl H3.out [.int .u64 n, .int .u64 pa] rfl rfl (by simp [Value.oneCell']) b4 b3 hz3' ?_; intro A4 c4 w4 h4 g4 _; have H4 := Lib.hid h4; clear h4; have B4 := B3.grown g4 B3.size (fun j hj => own_base H3.out j hj); have hz4' := B4.size; have HRB := Lib.hid ((Tm.drop_rd (T := R) (show Tm w4 _ rc R from (show Tm wr _ rc R from HRD.out).below B4) hk (Nat.lt_of_lt_of_le hbs hz4') : Rd 2 w4 (some ⟨b, off + k * 2, none⟩) (R.length - k) (rc - k) (tcells (R.drop k)))))
              | (at_builtin; refine app_own w4 rfl (.tmp 71) (.tmp 74) 79 rfl wr.heap.size 88 (.agg #[.int .u64 0, .int .u64 0]) 2 16 Try.underlying79 Try.infoT rfl (by decide) (.slice A4 (k + 1) c4) (k + 1) _ rfl H4.out _ _ _ _ rfl HRB.out (tcells_one _) b6 b5 hz4' ?_; intro A5 c5 w5 h5 g5 _; have H5 := Lib.hid h5; clear h5; have B5 := B4.grown g5 B4.size (fun j hj => own_base H4.out j hj)))
            all_goals
              go_ret2
              have eln : (insT R (n, pa)).length = k + 1 + (R.length - k) := by have := insT_length R (n, pa); omega
              have ecs : tcells (R.take k) ++ [.int .u64 n, .int .u64 pa] ++ tcells (R.drop k) = tcells (insT R (n, pa)) := by rw [HI.out, tcells_append]; simp [tcells]
              have h5 := H5.out
              rw [ecs] at h5
              rw [eln]
              exact ⟨A5, c5, rfl, own_mono h5 (by have := hb.size; omega), (hb.trans (hBw.mono hb.size)).trans (B5.mono (by have := hb.size; omega))⟩
          · have hz3 : (pa == tv) = false := by simpa using hz2
            have hz4 : decide (pa < tv) = false := decide_eq_false hx
            clear hy
            go_wp2_with fail
            refine wp_region_class (fun w' => w' = wr.drew) (by kernel_rfl) (by kernel_rfl) rfl ?_
            repeat (first | go_big_quiet_skip | (go_big_quiet_want; first | (go_big_quiet_op; go_big_quiet_on) | (apply Exists.intro; refine ⟨fun w' hw' => ?_, ?_⟩; (obtain rfl := hw'; unfold Oper.quietAt; go_simp; first | done | exact ⟨rfl, rfl⟩ | exact rfl | fail); (go_simp; go_big_quiet_on))))
            refine wpQuiet_nil ?_
            intro wq hw'
            obtain rfl := hw'
            have HRA := Lib.hid ((Tm.take (T := R) (show Tm wr.drew _ rc R from HRD.out) hk hkc (fun e => by cases e) : Rd 2 wr.drew (some ⟨b, off, none⟩) k rc (tcells (R.take k))))
            have b1 : (0 + k) * 16 ≤ 140737488355328 := by omega
            have b2 : 0 + k ≤ 9223372036854775807 := by omega
            have b3 : (k + 1) * 16 ≤ 140737488355328 := by omega
            have b4 : k + 1 ≤ 9223372036854775807 := by omega
            have b5 : (k + 1 + (R.length - k)) * 16 ≤ 140737488355328 := by omega
            have b6 : k + 1 + (R.length - k) ≤ 9223372036854775807 := by omega
            go_wp2_with (first
              | (at_builtin; refine app_own wr.drew rfl (.tmp 62) (.tmp 65) 79 rfl wr.heap.size 88 (.agg #[.int .u64 0, .int .u64 0]) 2 16 Try.underlying79 Try.infoT rfl (by decide) (.slice none 0 0) 0 [] rfl (World.ownsRow_nil _ _ _ _) _ _ _ (tcells (R.take k)) rfl HRA.out (tcells_one _) b2 b1 (Nat.le_refl _) ?_; intro A3 c3 w3 h3 g3 _; simp only [Nat.zero_add, List.nil_append] at h3; have H3 := Lib.hid h3; clear h3; have B3 : RowKit.Below wr.heap.size wr w3 := (show RowKit.Below wr.heap.size wr wr.drew from ⟨rfl, rfl, rfl, Nat.le_refl _, fun _ _ => rfl⟩).grown g3 (Nat.le_refl _) (fun j hj => by simp [Value.ownBlock] at hj); have hz3' := B3.size; have k3 := kt.below B3 t2; have p0 := k3.cell 0; have p1 := k3.cell 1; simp only [List.getElem?_toArray, List.getElem?_cons_zero, List.getElem?_cons_succ] at p0 p1; have k3l := k3.lt)
              | (at_builtin; refine app_one w3 rfl (.tmp 67) (.tmp 69) 79 rfl wr.heap.size 88 (.agg #[.int .u64 0, .int .u64 0]) 2 16 Try.underlying79 Try.infoT rfl (by decide) (.slice A3 k c3) k _ rfl H3.out [.int .u64 n, .int .u64 tv] rfl rfl (by simp [Value.oneCell']) b4 b3 hz3' ?_; intro A4 c4 w4 h4 g4 _; have H4 := Lib.hid h4; clear h4; have B4 := B3.grown g4 B3.size (fun j hj => own_base H3.out j hj); have hz4' := B4.size; have HRB := Lib.hid ((Tm.drop_rd (T := R) (show Tm w4 _ rc R from (show Tm wr _ rc R from HRD.out).below B4) hk (Nat.lt_of_lt_of_le hbs hz4') : Rd 2 w4 (some ⟨b, off + k * 2, none⟩) (R.length - k) (rc - k) (tcells (R.drop k)))))
              | (at_builtin; refine app_own w4 rfl (.tmp 71) (.tmp 74) 79 rfl wr.heap.size 88 (.agg #[.int .u64 0, .int .u64 0]) 2 16 Try.underlying79 Try.infoT rfl (by decide) (.slice A4 (k + 1) c4) (k + 1) _ rfl H4.out _ _ _ _ rfl HRB.out (tcells_one _) b6 b5 hz4' ?_; intro A5 c5 w5 h5 g5 _; have H5 := Lib.hid h5; clear h5; have B5 := B4.grown g5 B4.size (fun j hj => own_base H4.out j hj)))
            all_goals
              go_ret2
              have eln : (insT R (n, tv)).length = k + 1 + (R.length - k) := by have := insT_length R (n, tv); omega
              have ecs : tcells (R.take k) ++ [.int .u64 n, .int .u64 tv] ++ tcells (R.drop k) = tcells (insT R (n, tv)) := by rw [HI.out, tcells_append]; simp [tcells]
              have h5 := H5.out
              rw [ecs] at h5
              rw [eln]
              exact ⟨A5, c5, rfl, own_mono h5 (by have := hb.size; omega), (hb.trans (hBw.mono hb.size)).trans (B5.mono (by have := hb.size; omega))⟩
    · have hkl : k = R.length := by omega
      subst hkl
      rcases HO.out.2 with ⟨hv, hn0⟩ | ⟨g, cp, cur, hv, hbase, hgb, r1, r2, r3, r4⟩
      · simp only [Value.slice.injEq] at hv
        obtain ⟨rfl, _, rfl⟩ := hv
        have hR0 : R = [] := List.eq_nil_of_length_eq_zero hn0
        have HR0 := Lib.hid hR0; clear hR0
        have hins := insT_of (T := R) (t := (n, tv)) (k := 0) (fun p hp => by simp at hp) (.inl (by omega))
        have HI := Lib.hid hins; clear hins
        clear hrd
        go_wp2_with fail
        refine wp_region_class (fun w' => w' = wr.drew) (by kernel_rfl) (by kernel_rfl) rfl ?_
        repeat (first | go_big_quiet_skip | (go_big_quiet_want; first | (go_big_quiet_op; go_big_quiet_on) | (apply Exists.intro; refine ⟨fun w' hw' => ?_, ?_⟩; (obtain rfl := hw'; unfold Oper.quietAt; go_simp; first | done | exact ⟨rfl, rfl⟩ | exact rfl | fail); (go_simp; go_big_quiet_on))))
        refine wpQuiet_nil ?_
        intro wq hw'
        obtain rfl := hw'
        have HRA := Lib.hid ((by rw [HR0.out]; exact Rd.nil_ 2 _ : Rd 2 wr.drew none 0 0 (tcells (R.take 0))))
        have b1 : (0 + 0) * 16 ≤ 140737488355328 := by omega
        have b2 : 0 + 0 ≤ 9223372036854775807 := by omega
        have b3 : (0 + 1) * 16 ≤ 140737488355328 := by omega
        have b4 : 0 + 1 ≤ 9223372036854775807 := by omega
        have b5 : (0 + 1 + (0)) * 16 ≤ 140737488355328 := by omega
        have b6 : 0 + 1 + (0) ≤ 9223372036854775807 := by omega
        go_wp2_with (first
          | (at_builtin; refine app_own wr.drew rfl (.tmp 62) (.tmp 65) 79 rfl wr.heap.size 88 (.agg #[.int .u64 0, .int .u64 0]) 2 16 Try.underlying79 Try.infoT rfl (by decide) (.slice none 0 0) 0 [] rfl (World.ownsRow_nil _ _ _ _) _ _ _ (tcells (R.take 0)) rfl HRA.out (tcells_one _) b2 b1 (Nat.le_refl _) ?_; intro A3 c3 w3 h3 g3 _; simp only [Nat.zero_add, List.nil_append] at h3; have H3 := Lib.hid h3; clear h3; have B3 : RowKit.Below wr.heap.size wr w3 := (show RowKit.Below wr.heap.size wr wr.drew from ⟨rfl, rfl, rfl, Nat.le_refl _, fun _ _ => rfl⟩).grown g3 (Nat.le_refl _) (fun j hj => by simp [Value.ownBlock] at hj); have hz3' := B3.size; have k3 := kt.below B3 t2; have p0 := k3.cell 0; have p1 := k3.cell 1; simp only [List.getElem?_toArray, List.getElem?_cons_zero, List.getElem?_cons_succ] at p0 p1; have k3l := k3.lt)
          | (at_builtin; refine app_one w3 rfl (.tmp 67) (.tmp 69) 79 rfl wr.heap.size 88 (.agg #[.int .u64 0, .int .u64 0]) 2 16 Try.underlying79 Try.infoT rfl (by decide) (.slice A3 0 c3) 0 _ rfl H3.out [.int .u64 n, .int .u64 tv] rfl rfl (by simp [Value.oneCell']) b4 b3 hz3' ?_; intro A4 c4 w4 h4 g4 _; have H4 := Lib.hid h4; clear h4; have B4 := B3.grown g4 B3.size (fun j hj => own_base H3.out j hj); have hz4' := B4.size; have HRB := Lib.hid ((by rw [HR0.out]; exact Rd.nil_ 2 _ : Rd 2 w4 none 0 0 (tcells (R.drop 0)))))
          | (at_builtin; refine app_own w4 rfl (.tmp 71) (.tmp 74) 79 rfl wr.heap.size 88 (.agg #[.int .u64 0, .int .u64 0]) 2 16 Try.underlying79 Try.infoT rfl (by decide) (.slice A4 (0 + 1) c4) (0 + 1) _ rfl H4.out _ _ _ _ rfl HRB.out (tcells_one _) b6 b5 hz4' ?_; intro A5 c5 w5 h5 g5 _; have H5 := Lib.hid h5; clear h5; have B5 := B4.grown g5 B4.size (fun j hj => own_base H4.out j hj)))
        all_goals
          go_ret2
          have eln : (insT R (n, tv)).length = 0 + 1 + (0) := by have := insT_length R (n, tv); omega
          have ecs : tcells (R.take 0) ++ [.int .u64 n, .int .u64 tv] ++ tcells (R.drop 0) = tcells (insT R (n, tv)) := by rw [HI.out, tcells_append]; simp [tcells]
          have h5 := H5.out
          rw [ecs] at h5
          rw [eln]
          exact ⟨A5, c5, rfl, own_mono h5 (by have := hb.size; omega), (hb.trans (hBw.mono hb.size)).trans (B5.mono (by have := hb.size; omega))⟩
      · simp only [Value.slice.injEq] at hv
        obtain ⟨rfl, _, rfl⟩ := hv
        have hins := insT_of (t := (n, tv)) HA.out (.inl (Nat.le_refl _))
        have HI := Lib.hid hins; clear hins
        have HRD := Lib.hid hrd; clear hrd
        have HG := Lib.hid hgb; clear hgb r4
        go_wp2_with fail
        refine wp_region_class (fun w' => w' = wr.drew) (by kernel_rfl) (by kernel_rfl) rfl ?_
        repeat (first | go_big_quiet_skip | (go_big_quiet_want; first | (go_big_quiet_op; go_big_quiet_on) | (apply Exists.intro; refine ⟨fun w' hw' => ?_, ?_⟩; (obtain rfl := hw'; unfold Oper.quietAt; go_simp; first | done | exact ⟨rfl, rfl⟩ | exact rfl | fail); (go_simp; go_big_quiet_on))))
        refine wpQuiet_nil ?_
        intro wq hw'
        obtain rfl := hw'
        have HRA := Lib.hid ((Tm.take (T := R) (show Tm wr.drew _ rc R from HRD.out) (Nat.le_refl _) r1 (fun e => by cases e) : Rd 2 wr.drew (some ⟨g, 0, none⟩) R.length rc (tcells (R.take R.length))))
        have b1 : (0 + R.length) * 16 ≤ 140737488355328 := by omega
        have b2 : 0 + R.length ≤ 9223372036854775807 := by omega
        have b3 : (R.length + 1) * 16 ≤ 140737488355328 := by omega
        have b4 : R.length + 1 ≤ 9223372036854775807 := by omega
        have b5 : (R.length + 1 + (0)) * 16 ≤ 140737488355328 := by omega
        have b6 : R.length + 1 + (0) ≤ 9223372036854775807 := by omega
        go_wp2_with (first
          | (at_builtin; refine app_own wr.drew rfl (.tmp 62) (.tmp 65) 79 rfl wr.heap.size 88 (.agg #[.int .u64 0, .int .u64 0]) 2 16 Try.underlying79 Try.infoT rfl (by decide) (.slice none 0 0) 0 [] rfl (World.ownsRow_nil _ _ _ _) _ _ _ (tcells (R.take R.length)) rfl HRA.out (tcells_one _) b2 b1 (Nat.le_refl _) ?_; intro A3 c3 w3 h3 g3 _; simp only [Nat.zero_add, List.nil_append] at h3; have H3 := Lib.hid h3; clear h3; have B3 : RowKit.Below wr.heap.size wr w3 := (show RowKit.Below wr.heap.size wr wr.drew from ⟨rfl, rfl, rfl, Nat.le_refl _, fun _ _ => rfl⟩).grown g3 (Nat.le_refl _) (fun j hj => by simp [Value.ownBlock] at hj); have hz3' := B3.size; have k3 := kt.below B3 t2; have p0 := k3.cell 0; have p1 := k3.cell 1; simp only [List.getElem?_toArray, List.getElem?_cons_zero, List.getElem?_cons_succ] at p0 p1; have k3l := k3.lt)
          | (at_builtin; refine app_one w3 rfl (.tmp 67) (.tmp 69) 79 rfl wr.heap.size 88 (.agg #[.int .u64 0, .int .u64 0]) 2 16 Try.underlying79 Try.infoT rfl (by decide) (.slice A3 R.length c3) R.length _ rfl H3.out [.int .u64 n, .int .u64 tv] rfl rfl (by simp [Value.oneCell']) b4 b3 hz3' ?_; intro A4 c4 w4 h4 g4 _; have H4 := Lib.hid h4; clear h4; have B4 := B3.grown g4 B3.size (fun j hj => own_base H3.out j hj); have hz4' := B4.size; have HRB := Lib.hid ((fun A c hA => ⟨by rw [List.drop_length]; rfl, Nat.zero_le _, fun e => absurd e hA, fun h0 => absurd h0 (by omega)⟩ : ∀ A c, A ≠ none → Rd 2 w4 A 0 c (tcells (R.drop R.length)))))
          | (at_builtin; refine app_own w4 rfl (.tmp 71) (.tmp 74) 79 rfl wr.heap.size 88 (.agg #[.int .u64 0, .int .u64 0]) 2 16 Try.underlying79 Try.infoT rfl (by decide) (.slice A4 (R.length + 1) c4) (R.length + 1) _ rfl H4.out _ _ _ _ rfl (HRB.out _ _ (by split <;> simp)) (tcells_one _) b6 b5 hz4' ?_; intro A5 c5 w5 h5 g5 _; have H5 := Lib.hid h5; clear h5; have B5 := B4.grown g5 B4.size (fun j hj => own_base H4.out j hj)))
        all_goals
          go_ret2
          have eln : (insT R (n, tv)).length = R.length + 1 + (0) := by have := insT_length R (n, tv); omega
          have ecs : tcells (R.take R.length) ++ [.int .u64 n, .int .u64 tv] ++ tcells (R.drop R.length) = tcells (insT R (n, tv)) := by rw [HI.out, tcells_append]; simp [tcells]
          have h5 := H5.out
          rw [ecs] at h5
          rw [eln]
          exact ⟨A5, c5, rfl, own_mono h5 (by have := hb.size; omega), (hb.trans (hBw.mono hb.size)).trans (B5.mono (by have := hb.size; omega))⟩
end Go.Proofs.Ytlfnoailaoiedaa
