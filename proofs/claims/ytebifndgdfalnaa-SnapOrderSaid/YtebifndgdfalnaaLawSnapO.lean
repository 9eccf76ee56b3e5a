/- SnapOrder: the walk and its plain law. -/
import Derived.Test.YtebifndgdfalnaaLawSnap
namespace Go.Proofs.Ytebifndgdfalnaa
open Go.RowKit
set_option linter.unusedVariables false
set_option linter.unusedSimpArgs false

theorem idxI_mem {xs : List Int} {y : Int} (h : y ∈ xs) : ∃ k : Nat, k < xs.length ∧ idxI xs y = k ∧ xs.findIdx? (· == y) = some k := by
  cases hk : xs.findIdx? (· == y) with
  | none => rw [List.findIdx?_eq_none_iff] at hk; exact absurd (hk y h) (by simp)
  | some k => exact ⟨k, (List.findIdx?_eq_some_iff_getElem.1 hk).1, by unfold idxI; rw [hk], rfl⟩
theorem idxI_snoc_old {xs : List Int} {y : Int} (h : y ∈ xs) (x : Int) : idxI (xs ++ [x]) y = idxI xs y := by
  obtain ⟨k, h1, h2, h3⟩ := idxI_mem h
  rw [h2]; unfold idxI; rw [List.findIdx?_append, h3]; rfl
theorem idxI_snoc_new {xs : List Int} {y : Int} (h : y ∉ xs) : idxI (xs ++ [y]) y = xs.length := by
  have : xs.findIdx? (· == y) = none := by
    rw [List.findIdx?_eq_none_iff]; intro x hx; simp; exact fun e => h (e ▸ hx)
  unfold idxI; rw [List.findIdx?_append, this]; simp
theorem mem_withL {xs : List Int} {n y : Int} : y ∈ withL xs n ↔ y ∈ xs ∨ y = n := by
  unfold withL; split
  · rename_i h; exact ⟨.inl, fun e => e.elim id fun e => e ▸ h⟩
  · simp
theorem snoc_ind {P : List Int → Prop} (h0 : P []) (h1 : ∀ xs x, P xs → P (xs ++ [x])) (xs : List Int) : P xs := by
  suffices ∀ n, n ≤ xs.length → P (xs.take n) by have := this xs.length (Nat.le_refl _); rwa [List.take_length] at this
  intro n
  induction n with
  | zero => intro _; simpa using h0
  | succ n ih => intro hn; have := h1 _ (xs[n]'(by omega)) (ih (by omega)); rwa [List.take_append_getElem] at this
theorem mem_ofL (xs : List Int) : ∀ y, y ∈ ofL xs ↔ y ∈ xs := by
  refine snoc_ind (P := fun xs => ∀ y, y ∈ ofL xs ↔ y ∈ xs) (by simp [ofL]) (fun xs x ih y => ?_) xs
  rw [ofL_snoc, mem_withL, ih]; simp
theorem ofL_order (xs : List Int) : (ofL xs).Pairwise fun a b => idxI xs a < idxI xs b := by
  refine snoc_ind (P := fun xs => (ofL xs).Pairwise fun a b => idxI xs a < idxI xs b) (by simp [ofL]) (fun xs x ih => ?_) xs
  have old : (ofL xs).Pairwise fun a b => idxI (xs ++ [x]) a < idxI (xs ++ [x]) b := by
    refine ih.imp_of_mem fun ha hb h => ?_
    rw [idxI_snoc_old ((mem_ofL xs _).1 ha), idxI_snoc_old ((mem_ofL xs _).1 hb)]; exact h
  rw [ofL_snoc]; unfold withL; split
  · exact old
  · rename_i hn
    rw [List.pairwise_append]
    refine ⟨old, by simp, fun a ha b hb => ?_⟩
    simp at hb; subst hb
    have hx : b ∉ xs := fun h => hn ((mem_ofL xs b).2 h)
    rw [idxI_snoc_new hx, idxI_snoc_old ((mem_ofL xs a).1 ha)]
    obtain ⟨k, h1, h2, -⟩ := idxI_mem ((mem_ofL xs a).1 ha)
    omega
theorem getD_in {xs : List Int} {i : Nat} (h : i < xs.length) : xs.getD i 0 ∈ xs := by
  rw [List.getD_eq_getElem?_getD, List.getElem?_eq_getElem h]; exact List.getElem_mem h
theorem getD_get {xs : List Int} {i : Nat} (h : i < xs.length) : xs.getD i 0 = xs[i] := by
  rw [List.getD_eq_getElem?_getD, List.getElem?_eq_getElem h]; rfl
theorem ofL_up (xs : List Int) {i : Nat} (h : i + 1 < (ofL xs).length) : idxI xs ((ofL xs).getD i 0) < idxI xs ((ofL xs).getD (i + 1) 0) := by
  rw [getD_get h, getD_get (by omega : i < _)]
  exact List.pairwise_iff_getElem.1 (ofL_order xs) i (i + 1) _ _ (by omega)
theorem ofL_from (xs : List Int) {i : Nat} (h : i < (ofL xs).length) : 0 ≤ idxI xs ((ofL xs).getD i 0) := by
  obtain ⟨k, -, h2, -⟩ := idxI_mem ((mem_ofL xs _).1 (getD_in h)); omega
theorem idxI_nodup {xs : List Int} (h : xs.Nodup) {i : Nat} (hi : i < xs.length) : idxI xs (xs.getD i 0) = i := by
  refine idxI_found hi rfl fun j hj e => ?_
  rw [getD_get hi, getD_get (by omega)] at e
  have := (List.pairwise_iff_getElem.1 h) j i (by omega) hi hj
  exact this e
theorem mem_withoutL {xs : List Int} {n y : Int} : y ∈ withoutL xs n ↔ y ∈ xs ∧ y ≠ n := by simp [withoutL]
theorem mem_strip (l : List Int) : ∀ (xs : List Int) (y : Int), y ∈ l.foldl withoutL xs ↔ y ∈ xs ∧ y ∉ l := by
  induction l with
  | nil => intro xs y; simp
  | cons x l ih => intro xs y; rw [List.foldl_cons, ih, mem_withoutL]; simp; exact ⟨fun ⟨⟨a, b⟩, c⟩ => ⟨a, b, c⟩, fun ⟨a, b, c⟩ => ⟨⟨a, b⟩, c⟩⟩
theorem strip_all (l : List Int) : l.foldl withoutL (ofL l) = [] := by
  rw [List.eq_nil_iff_forall_not_mem]
  intro y hy
  obtain ⟨h1, h2⟩ := (mem_strip l _ y).1 hy
  exact h2 ((mem_ofL l y).1 h1)
theorem strip_snoc (l : List Int) (k : Nat) (h : k < l.length) (xs : List Int) : (l.take (k + 1)).foldl withoutL xs = withoutL ((l.take k).foldl withoutL xs) (l.getD k 0) := by
  rw [getD_get h, List.take_succ_eq_append_getElem h, List.foldl_append]; rfl
theorem strip_le (l : List Int) : ∀ xs : List Int, (l.foldl withoutL xs).length ≤ xs.length := by
  induction l with
  | nil => intro xs; exact Nat.le_refl _
  | cons x l ih => intro xs; rw [List.foldl_cons]; exact Nat.le_trans (ih _) (withoutL_length _ _)
theorem strip_nodup (l : List Int) : ∀ xs : List Int, xs.Nodup → (l.foldl withoutL xs).Nodup := by
  induction l with
  | nil => intro xs h; exact h
  | cons x l ih => intro xs h; rw [List.foldl_cons]; exact ih _ (withoutL_nodup h x)
theorem without_with (xs : List Int) (n : Int) : withoutL (withL xs n) n = withoutL xs n := by
  unfold withL; split
  · rfl
  · simp [withoutL]
theorem with_without (xs : List Int) (n : Int) : withL (withoutL xs n) n = withoutL xs n ++ [n] := if_neg fun h => (mem_withoutL.1 h).2 rfl
theorem idx_again (xs : List Int) (n : Int) : idxI (withL (withoutL xs n) n) n = ((withL (withoutL xs n) n).length : Int) - 1 := by
  rw [with_without, idxI_snoc_new fun h => (mem_withoutL.1 h).2 rfl]; simp

set_option maxRecDepth 100000 in
set_option maxHeartbeats 2000000 in
theorem law_SnapOrder (a : Option Addr) (n cap : Nat) (xs : List Int) (v : Int) (w : World) (hx : Nums .u64 w a n cap xs) (h2 : 0 ≤ v) (h3 : v < 18446744073709551616) :
    Calls Try.prog 11 #[.slice a n cap, .int .u64 v] w fun e w' => e = .returned (.bool true) ∧ Below w.heap.size w w' := by
  obtain ⟨rfl, hn, hwf, hsx⟩ := hx
  by_cases hbig : 100 < xs.length
  · go_enter Try.func11, Try.ntmps11
    go_wp2_with (first | (go_at_call 50; refine (law03_awake _).mono ?_; rintro e w' ⟨rfl, hb⟩))
    go_ret
    exact ⟨rfl, hb⟩
  have hol := ofL_len xs
  have hnd := ofL_nodup xs
  go_enter Try.func11, Try.ntmps11
  go_wp2_with (first | (go_at_call 50; refine (law03_awake _).mono ?_; rintro e w0 ⟨rfl, hb0⟩) | (go_at_call 51; refine (snap_Of _ _ _ _ (hsx.below hb0) (by omega)).mono ?_; rintro e w1 ⟨a1, cp1, rfl, hs1, -, hb1⟩; have hB1 := below_step hb0 hb0.size hb1) | (go_at_call 60; refine (snap_Len _ _ (ofL xs) _).mono ?_; rintro e w2 ⟨rfl, hb2⟩))
  have hB2 := below_step (hB1.alloc hB1.size (.cells #[.slice a1 (ofL xs).length cp1] 57)) (by rw [size_alloc]; have := hB1.size; omega) hb2
  have hbx := (Blk.new w1 57 #[.slice a1 (ofL xs).length cp1]).of_below hb2
  have hS2 := (hs1.below ((Below.refl _ _).alloc (Nat.le_refl _) (.cells #[.slice a1 (ofL xs).length cp1] 57))).below hb2
  clear hb2 hs1
  generalize w1.heap.size = g at hbx
  go_loopw [6, 24] (fun lv iv wr => ∃ (k : Nat), k ≤ (ofL xs).length ∧ iv = .int .i64 k ∧ lv = .int .i64 (if k = 0 then -1 else idxI xs ((ofL xs).getD (k - 1) 0)) ∧ Below w2.heap.size w2 wr) (fun _ iv _ => ((ofL xs).length - intOf iv).toNat)
  case atStart => exact ⟨0, by omega, rfl, rfl, Below.refl _ _⟩
  case round =>
    obtain ⟨k, hk, rfl, rfl, hBr⟩ := hrel
    have hbr := hbx.of_below hBr
    have hSr := hS2.below hBr
    have hBw := below_step hB2 hB2.size hBr
    have p0 := hbr.cell 0
    have p1 := hbr.frozen 0
    simp only [List.getElem?_toArray, List.getElem?_cons_zero] at p0
    by_cases hlt : k < (ofL xs).length
    · have hL : (if k = 0 then (-1 : Int) else idxI xs ((ofL xs).getD (k - 1) 0)) < idxI xs ((ofL xs).getD k 0) := by
        split
        · have := ofL_from xs hlt; omega
        · have := ofL_up xs (i := k - 1) (by omega); rwa [show k - 1 + 1 = k by omega] at this
      generalize (if k = 0 then (-1 : Int) else idxI xs ((ofL xs).getD (k - 1) 0)) = L at *
      have e0 := idxI_nodup hnd hlt
      have e1 : (if (0:Int) ≤ (k:Int) then (ofL xs).getD (k:Int).toNat 0 else 0) = (ofL xs).getD k 0 := by simp
      have e2 : decide (0 ≤ (k:Int) ∧ (k:Int) < (ofL xs).length) = true := by simp; omega
      have e3 : idxI xs ((ofL xs).getD k 0) = (fun _ : Unit => idxI xs ((ofL xs).getD (k + 1 - 1) 0)) () := rfl
      have E3 := Lib.hid e3; clear e3
      go_wp2_with fail
      refine (snap_At a1 cp1 (ofL xs) _ _ hSr (by omega) (by omega) (by omega)).mono ?_
      rintro e w5 ⟨rfl, hb5⟩
      rw [e1, e2]
      clear e1 e2
      generalize (ofL xs).getD k 0 = x at *
      have hbx5 := hbr.of_below hb5
      have p5 := hbx5.cell 0
      have f5 := hbx5.frozen 0
      simp only [List.getElem?_toArray, List.getElem?_cons_zero] at p5
      have hB5 := below_step hBw hBw.size hb5
      have hBr5 := below_step hBr hBr.size hb5
      generalize hI : idxI xs x = I at hL
      have HI := Lib.hid hI
      go_wp2_with (first | (go_at_call 63; refine (slices_Index_u64 _ _ xs x _ (hsx.below hB5) (by omega)).mono ?_; rintro e w6 ⟨rfl, rfl⟩; rw [hI]; clear hI) | (go_at_call 61; refine (snap_Index a1 cp1 (ofL xs) x _ (hSr.below hb5) (by omega)).mono ?_; rintro e w7 ⟨rfl, hb7⟩; rw [e0]))
      go_roundw
      case rel => exact ⟨k + 1, by omega, by go_num, by rw [← HI.out, E3.out, if_neg (by omega)], below_step hBr5 hBr5.size hb7⟩
      case measure => simp [intOf]; omega
    · generalize (if k = 0 then (-1 : Int) else idxI xs ((ofL xs).getD (k - 1) 0)) = L
      have hwl := withoutL_length (ofL xs) v
      have hTl := withL_length (withoutL (ofL xs) v) v
      have hTi := idx_again (ofL xs) v
      go_wp2_with (first | (go_at_call 53; refine (snap_Without_nd a1 cp1 (ofL xs) v _ hSr (by omega) hnd).mono ?_; rintro e u1 ⟨aT0, cT0, rfl, hT0, -, hu1⟩) | (go_at_call 55; refine (snap_With aT0 cT0 (withoutL (ofL xs) v) v _ hT0 (by omega)).mono ?_; rintro e u2 ⟨aT, cT, rfl, hT, -, hu2⟩; generalize withL (withoutL (ofL xs) v) v = T at *; have hbu := (hbr.of_below hu1).of_below hu2; have hSu := (hSr.below hu1).below hu2; have hBu := below_step (below_step hBw hBw.size hu1) (Nat.le_trans hBw.size hu1.size) hu2; have p6 := hbu.cell 0; have p7 := hbu.lt; simp only [List.getElem?_toArray, List.getElem?_cons_zero] at p6))
      have hbV := hbu.alloc (.cells #[.slice aT T.length cT] 57)
      have htV := Blk.new u2 57 #[.slice aT T.length cT]
      have hSV := hSu.below ((Below.refl _ _).alloc (Nat.le_refl _) (.cells #[.slice aT T.length cT] 57))
      have hTV := hT.below ((Below.refl _ _).alloc (Nat.le_refl _) (.cells #[.slice aT T.length cT] 57))
      have hBV := hBu.alloc hBu.size (.cells #[.slice aT T.length cT] 57)
      have hVs : (u2.alloc (.cells #[.slice aT T.length cT] 57)).heap.size = u2.heap.size + 1 := size_alloc _ _
      have heV := Blk.new (u2.alloc (.cells #[.slice aT T.length cT] 57)) 57 #[.slice a1 (ofL xs).length cp1]
      rw [hVs] at heV
      generalize hV : u2.alloc (.cells #[.slice aT T.length cT] 57) = V at *
      have HV := Lib.hid hV; clear hV
      generalize u2.heap.size = gt at *
      go_loopw [60] (fun iv wr' => ∃ (k : Nat) (es : List Int) (ae : Option Addr) (ce : Nat), k ≤ xs.length ∧ iv = .int .i64 k ∧ es = (xs.take k).foldl withoutL (ofL xs) ∧ es.length ≤ (ofL xs).length ∧ es.Nodup ∧ Blk wr' (gt + 1) 57 #[.slice ae es.length ce] ∧ Sl .u64 wr' ae ce es ∧ Below V.heap.size V wr') (fun iv _ => (xs.length - intOf iv).toNat)
      case atStart => exact ⟨0, ofL xs, a1, cp1, by omega, rfl, by simp, Nat.le_refl _, hnd, heV, hSV.below ((Below.refl _ _).alloc (Nat.le_refl _) _), (Below.refl _ _).alloc (Nat.le_refl _) _⟩
      case round =>
        obtain ⟨j, es, ae, ce, hj, rfl, hes, hel, hen, hbe, hse, hBV2⟩ := hrel
        have hbg := hbV.of_below hBV2
        have hbt := htV.of_below hBV2
        have hS := hSV.below hBV2
        have hT := hTV.below hBV2
        have hBW := below_step hBV hBV.size hBV2
        have q0 := hbe.cell 0
        have q1 := hbe.frozen 0
        have q2 := hbe.lt
        have q3 := hbg.cell 0
        have q4 := hbt.cell 0
        have q5 := hbg.lt
        have q6 := hbt.lt
        simp only [List.getElem?_toArray, List.getElem?_cons_zero] at q0 q3 q4
        have HES := Lib.hid hes; clear hes
        by_cases hlt2 : j < xs.length
        · obtain ⟨b', off, rfl, hbs, hc⟩ := hsx.at_ (by omega)
          have c0 := (hBW.cell (p := ⟨b', off + j, none⟩) hbs).trans (hc j hlt2)
          clear hc
          generalize hxj : xs.getD j 0 = y at c0
          have HX := Lib.hid hxj; clear hxj
          have hel2 := withoutL_length es y
          go_wp2_with (go_at_call 53; refine (snap_Without_nd ae ce es y _ hse (by omega) hen).mono ?_; rintro e w5 ⟨a5, c5, rfl, hs5, -, hb5⟩; have hbe5 := hbe.of_below hb5; have r0 := hbe5.cell 0; have r1 := hbe5.frozen 0; have r2 := hbe5.lt)
          have hB5 := below_step hBV2 hBV2.size hb5
          go_roundw
          case rel => exact ⟨j + 1, withoutL es y, a5, c5, by omega, by go_num, by rw [strip_snoc xs j hlt2, ← HES.out, HX.out], by omega, withoutL_nodup hen y, hbe5.put 0 _, hs5.box hbe5 _, hB5.setCell (by simp; omega) _⟩
          case measure => simp [intOf]; omega
        · have he : es = [] := by rw [HES.out, List.take_of_length_le (by omega)]; exact strip_all xs
          subst he
          have hww := without_with (ofL xs) v
          have hWl := withL_length (ofL xs) v
          have hwr : IntKind.i64.wrap ((T.length : Int) - 1) = T.length - 1 := by first | (go_num; done) | (simp [IntKind.wrap, IntKind.signed, IntKind.bits]; omega) | (simp [IntKind.wrap, IntKind.signed, IntKind.bits, Int.bmod]; omega)
          go_wp2_with fail
          refine wp_region_mix (fun w' => Below wr.heap.size wr w') [(0, true), (1, false), (2, true), (3, true), (4, true), (5, true), (7, true), (6, false), (8, false), (9, true), (10, true), (11, true), (12, true), (13, true), (14, true), (16, true), (19, true), (20, true), (15, false), (17, false), (18, false), (21, false), (22, false), (23, false), (24, true), (25, true)] (by kernel_rfl) (by kernel_rfl) ((Below.refl _ _).drew) ?_
          refine ord_still rfl rfl (fun K hK => ?_); apply Exists.intro; refine ⟨fun w' hw' => ?_, ?_⟩; (obtain ⟨bc, bf⟩ := bcell hw'; go_simp; first | done | exact ⟨rfl, rfl⟩ | exact rfl); (go_simp; refine hK _ ?_; clear hK K)
          refine ord_sole rfl rfl (fun K hK => ?_); go_simp
          refine (snap_Len _ _ [] _).mono ?_
          rintro e v1 ⟨rfl, hb⟩
          have hV1 : Below wr.heap.size wr v1 := below_step (below_drewN (Below.refl wr.heap.size wr) 1) (Below.size (below_drewN (Below.refl wr.heap.size wr) 1)) hb
          refine ⟨_, rfl, hV1, ?_⟩
          have hz0 : ((([] : List Int).length : Nat) : Int) = 0 := rfl
          go_simp
          refine hK _ _ ?_; clear hK K hb
          refine ord_still rfl rfl (fun K hK => ?_); apply Exists.intro; refine ⟨fun w' hw' => ?_, ?_⟩; (obtain ⟨bc, bf⟩ := bcell hw'; go_simp; first | done | exact ⟨rfl, rfl⟩ | exact rfl); (go_simp; refine hK _ ?_; clear hK K)
          refine ord_still rfl rfl (fun K hK => ?_); apply Exists.intro; refine ⟨fun w' hw' => ?_, ?_⟩; (obtain ⟨bc, bf⟩ := bcell hw'; go_simp; first | done | exact ⟨rfl, rfl⟩ | exact rfl); (go_simp; refine hK _ ?_; clear hK K)
          refine ord_still rfl rfl (fun K hK => ?_); apply Exists.intro; refine ⟨fun w' hw' => ?_, ?_⟩; (obtain ⟨bc, bf⟩ := bcell hw'; go_simp; first | done | exact ⟨rfl, rfl⟩ | exact rfl); (go_simp; refine hK _ ?_; clear hK K)
          refine ord_still rfl rfl (fun K hK => ?_); apply Exists.intro; refine ⟨fun w' hw' => ?_, ?_⟩; (obtain ⟨bc, bf⟩ := bcell hw'; go_simp; first | done | exact ⟨rfl, rfl⟩ | exact rfl); (go_simp; refine hK _ ?_; clear hK K)
          refine ord_still rfl rfl (fun K hK => ?_); apply Exists.intro; refine ⟨fun w' hw' => ?_, ?_⟩; (obtain ⟨bc, bf⟩ := bcell hw'; go_simp; first | done | exact ⟨rfl, rfl⟩ | exact rfl); (go_simp; refine hK _ ?_; clear hK K)
          refine ord_sole rfl rfl (fun K hK => ?_); go_simp
          refine (snap_Index _ _ T v _ (hT.below hV1) (by omega)).mono ?_
          rintro e v2 ⟨rfl, hb⟩
          have hV2 : Below wr.heap.size wr v2 := below_step hV1 (Below.size hV1) hb
          refine ⟨_, rfl, hV2, ?_⟩
          rw [hTi]
          go_simp
          refine hK _ _ ?_; clear hK K hb
          refine ord_sole rfl rfl (fun K hK => ?_); go_simp
          refine (snap_Len _ _ T _).mono ?_
          rintro e v3 ⟨rfl, hb⟩
          have hV3 : Below wr.heap.size wr v3 := below_step hV2 (Below.size hV2) hb
          refine ⟨_, rfl, hV3, ?_⟩
          go_simp
          refine hK _ _ ?_; clear hK K hb
          refine ord_still rfl rfl (fun K hK => ?_); apply Exists.intro; refine ⟨fun w' hw' => ?_, ?_⟩; (obtain ⟨bc, bf⟩ := bcell hw'; go_simp; first | done | exact ⟨rfl, rfl⟩ | exact rfl); (go_simp; refine hK _ ?_; clear hK K)
          refine ord_still rfl rfl (fun K hK => ?_); apply Exists.intro; refine ⟨fun w' hw' => ?_, ?_⟩; (obtain ⟨bc, bf⟩ := bcell hw'; go_simp; first | done | exact ⟨rfl, rfl⟩ | exact rfl); (go_simp; refine hK _ ?_; clear hK K)
          refine ord_still rfl rfl (fun K hK => ?_); apply Exists.intro; refine ⟨fun w' hw' => ?_, ?_⟩; (obtain ⟨bc, bf⟩ := bcell hw'; go_simp; first | done | exact ⟨rfl, rfl⟩ | exact rfl); (go_simp; refine hK _ ?_; clear hK K)
          refine ord_still rfl rfl (fun K hK => ?_); apply Exists.intro; refine ⟨fun w' hw' => ?_, ?_⟩; (obtain ⟨bc, bf⟩ := bcell hw'; go_simp; first | done | exact ⟨rfl, rfl⟩ | exact rfl); (go_simp; refine hK _ ?_; clear hK K)
          refine ord_still rfl rfl (fun K hK => ?_); apply Exists.intro; refine ⟨fun w' hw' => ?_, ?_⟩; (obtain ⟨bc, bf⟩ := bcell hw'; go_simp; first | done | exact ⟨rfl, rfl⟩ | exact rfl); (go_simp; refine hK _ ?_; clear hK K)
          refine ord_still rfl rfl (fun K hK => ?_); apply Exists.intro; refine ⟨fun w' hw' => ?_, ?_⟩; (obtain ⟨bc, bf⟩ := bcell hw'; go_simp; first | done | exact ⟨rfl, rfl⟩ | exact rfl); (go_simp; refine hK _ ?_; clear hK K)
          refine ord_still rfl rfl (fun K hK => ?_); apply Exists.intro; refine ⟨fun w' hw' => ?_, ?_⟩; (obtain ⟨bc, bf⟩ := bcell hw'; go_simp; first | done | exact ⟨rfl, rfl⟩ | exact rfl); (go_simp; refine hK _ ?_; clear hK K)
          refine ord_still rfl rfl (fun K hK => ?_); apply Exists.intro; refine ⟨fun w' hw' => ?_, ?_⟩; (obtain ⟨bc, bf⟩ := bcell hw'; go_simp; first | done | exact ⟨rfl, rfl⟩ | exact rfl); (go_simp; refine hK _ ?_; clear hK K)
          refine ord_still rfl rfl (fun K hK => ?_); apply Exists.intro; refine ⟨fun w' hw' => ?_, ?_⟩; (obtain ⟨bc, bf⟩ := bcell hw'; go_simp; first | done | exact ⟨rfl, rfl⟩ | exact rfl); (go_simp; refine hK _ ?_; clear hK K)
          refine ord_sole rfl rfl (fun K hK => ?_); go_simp
          refine (snap_With _ _ (ofL xs) v _ (hS.below hV3) (by omega)).mono ?_
          rintro e v4 ⟨a4, c4, rfl, hs4, -, hb⟩
          have hV4 : Below wr.heap.size wr v4 := below_step hV3 (Below.size hV3) hb
          refine ⟨_, rfl, hV4, ?_⟩
          go_simp
          refine hK _ _ ?_; clear hK K hb
          refine ord_sole rfl rfl (fun K hK => ?_); go_simp
          refine (snap_Without_nd _ _ _ v _ hs4 (by omega) (withL_nodup hnd v)).mono ?_
          rintro e v5 ⟨a5, c5, rfl, hs5, -, hb⟩
          have hV5 : Below wr.heap.size wr v5 := below_step hV4 (Below.size hV4) hb
          refine ⟨_, rfl, hV5, ?_⟩
          rw [hww] at hs5 ⊢
          go_simp
          refine hK _ _ ?_; clear hK K hb
          refine ord_sole rfl rfl (fun K hK => ?_); go_simp
          refine (snap_All _ _ _ _ hs5 (by omega)).mono ?_
          rintro e v6 ⟨a6, c6, rfl, ho6, hb⟩
          have hV6 : Below wr.heap.size wr v6 := below_step hV5 (Below.size hV5) hb
          refine ⟨_, rfl, hV6, ?_⟩
          have hs6 := own_rd ho6
          go_simp
          refine hK _ _ ?_; clear hK K hb
          refine ord_sole rfl rfl (fun K hK => ?_); go_simp
          refine (snap_Without_nd _ _ (ofL xs) v _ (hS.below hV6) (by omega) hnd).mono ?_
          rintro e v7 ⟨a7, c7, rfl, hs7, -, hb⟩
          have hV7 : Below wr.heap.size wr v7 := below_step hV6 (Below.size hV6) hb
          refine ⟨_, rfl, hV7, ?_⟩
          have hs67 := Sl.below hs6 hb
          go_simp
          refine hK _ _ ?_; clear hK K hb
          refine ord_sole rfl rfl (fun K hK => ?_); go_simp
          refine (snap_All _ _ _ _ hs7 (by omega)).mono ?_
          rintro e v8 ⟨a8, c8, rfl, ho8, hb⟩
          have hV8 : Below wr.heap.size wr v8 := below_step hV7 (Below.size hV7) hb
          refine ⟨_, rfl, hV8, ?_⟩
          have hs8 := own_rd ho8
          have hs68 := Sl.below hs67 hb
          go_simp
          refine hK _ _ ?_; clear hK K hb
          refine ord_sole rfl rfl (fun K hK => ?_); go_simp
          refine (slices_Equal_u64 _ _ _ _ _ _ _ hs68 hs8 (by omega) (by omega)).mono ?_
          rintro e v9 ⟨rfl, q, rfl⟩
          have hV9 := below_drewN hV8 q
          refine ⟨_, rfl, hV9, ?_⟩
          have hEq : (withoutL (ofL xs) v == withoutL (ofL xs) v) = true := by simp
          rw [hEq]
          go_simp
          refine hK _ _ ?_; clear hK K
          refine ord_still rfl rfl (fun K hK => ?_); apply Exists.intro; refine ⟨fun w' hw' => ?_, ?_⟩; (obtain ⟨bc, bf⟩ := bcell hw'; go_simp; first | done | exact ⟨rfl, rfl⟩ | exact rfl); (go_simp; refine hK _ ?_; clear hK K)
          refine ord_still rfl rfl (fun K hK => ?_); apply Exists.intro; refine ⟨fun w' hw' => ?_, ?_⟩; (obtain ⟨bc, bf⟩ := bcell hw'; go_simp; first | done | exact ⟨rfl, rfl⟩ | exact rfl); (go_simp; refine hK _ ?_; clear hK K)
          refine ord_nil ?_
          intro hC3
          go_wp2_with fail
          go_ret
          exact ⟨rfl, below_step hBW hBW.size hC3⟩
end Go.Proofs.Ytebifndgdfalnaa
