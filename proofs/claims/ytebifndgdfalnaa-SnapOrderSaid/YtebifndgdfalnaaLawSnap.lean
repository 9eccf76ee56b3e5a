/- The walks of layer 3's laws. -/
import Derived.Test.YtebifndgdfalnaaAwake03
import Derived.Test.YtebifndgdfalnaaOpen
import Derived.Test.YtebifndgdfalnaaMix
namespace Go.Proofs.Ytebifndgdfalnaa
open Go.RowKit
set_option linter.unusedVariables false
set_option linter.unusedSimpArgs false

def stepS (xs : List Int) (x : SAct) : List Int := if x.out then withoutL xs x.n else withL xs x.n
theorem withL_nodup {xs : List Int} (h : xs.Nodup) (n : Int) : (withL xs n).Nodup := by
  unfold withL; split
  · exact h
  · rename_i hn
    rw [List.nodup_append]
    exact ⟨h, by simp, fun a ha b hb => by simp at hb; subst hb; exact fun e => hn (e ▸ ha)⟩
theorem withoutL_nodup {xs : List Int} (h : xs.Nodup) (n : Int) : (withoutL xs n).Nodup := h.filter _
theorem ofL_nodup (xs : List Int) : (ofL xs).Nodup := by
  suffices h : ∀ (xs ys : List Int), ys.Nodup → (xs.foldl withL ys).Nodup from h xs [] List.nodup_nil
  intro xs
  induction xs with
  | nil => intro ys h; exact h
  | cons x xs ih => intro ys h; exact ih _ (withL_nodup h x)
theorem erase_without {xs : List Int} (h : xs.Nodup) (n : Int) : xs.erase n = withoutL xs n := by
  rw [h.erase_eq_filter]; unfold withoutL
  congr 1; funext x; by_cases e : x = n <;> simp [bne, e]
theorem Sl.box {k : IntKind} {w : World} {a : Option Addr} {cap : Nat} {xs : List Int} (h : Sl k w a cap xs) {g : Nat} {t : TypeId} {x : Option Addr} {y z : Nat} (hb : Blk w g t #[.slice x y z]) (u : Value) : Sl k (w.setCell ⟨g, 0, none⟩ u) a cap xs := by
  by_cases h0 : xs = []
  · subst h0; exact ⟨h.1, h.2.1, h.2.2.1, fun h => absurd h (by simp)⟩
  · obtain ⟨b, off, ha, hb', hc⟩ := h.at_ (List.length_pos_iff.2 h0)
    refine Rd.far h (fun q hq => ?_) u
    rw [ha] at hq; cases hq
    intro e
    dsimp only at e
    subst e
    have h1 := hb.cell off
    have h2 := hc 0 (List.length_pos_iff.2 h0)
    rw [Nat.add_zero, h1] at h2
    cases off with
    | zero => simp at h2
    | succ n => simp at h2
theorem snap_Without_nd (a : Option Addr) (cap : Nat) (xs : List Int) (n : Int) (w : World) (h : Sl .u64 w a cap xs) (hl : xs.length ≤ 100000) (hd : xs.Nodup) :
    Calls Try.prog 53 #[.agg #[.slice a xs.length cap], .int .u64 n] w fun e w' => ∃ a' cap', e = .returned (.agg #[.slice a' (withoutL xs n).length cap']) ∧ Sl .u64 w' a' cap' (withoutL xs n) ∧ Loc w.heap.size a a' ∧ Below w.heap.size w w' := by
  have := snap_Without a cap xs n w h hl
  rw [erase_without hd] at this; exact this
theorem ofL_len (xs : List Int) : (ofL xs).length ≤ xs.length := by have := ofL_length xs xs.length; rwa [List.take_length] at this

set_option maxRecDepth 100000 in
set_option maxHeartbeats 2000000 in
theorem law_SnapTells (a : Option Addr) (n cap : Nat) (xs : List Int) (b : Option Addr) (m mcap : Nat) (zs : List SAct) (i v : Int) (w : World) (hx : Nums .u64 w a n cap xs) (hz : SActsIn w b m zs)
    (h0 : -9223372036854775808 ≤ i) (h1 : i ≤ 9223372036854775807) (h2 : 0 ≤ v) (h3 : v < 18446744073709551616) :
    Calls Try.prog 10 #[.slice a n cap, .slice b m mcap, .int .i64 i, .int .u64 v] w fun e w' => e = .returned (.bool true) ∧ Below w.heap.size w w' := by
  obtain ⟨rfl, hn, hwf, hsx⟩ := hx
  obtain ⟨hzl, hm, hzwf, hzc⟩ := hz
  by_cases hbig : 100 < xs.length
  · go_enter Try.func10, Try.ntmps10
    go_wp2_with (first | (go_at_call 50; refine (law03_awake _).mono ?_; rintro e w' ⟨rfl, hb⟩))
    go_ret
    exact ⟨rfl, hb⟩
  by_cases hbig2 : 60 < m
  · go_enter Try.func10, Try.ntmps10
    go_wp2_with (first | (go_at_call 50; refine (law03_awake _).mono ?_; rintro e w' ⟨rfl, hb⟩))
    go_ret
    exact ⟨rfl, hb⟩
  have hol := ofL_len xs
  go_enter Try.func10, Try.ntmps10
  go_wp2_with (first | (go_at_call 50; refine (law03_awake _).mono ?_; rintro e w0 ⟨rfl, hb0⟩) | (go_at_call 51; refine (snap_Of _ _ _ _ (hsx.below hb0) (by omega)).mono ?_; rintro e w1 ⟨a1, cp1, rfl, hs1, hl1, hb1⟩; have hB1 := below_step hb0 hb0.size hb1) | (go_at_call 52; refine (ref03_Of _ _ _ _ (hsx.below hB1) (by omega)).mono ?_; rintro e w2 ⟨a2, cp2, rfl, hs2, hl2, hb2⟩; have hB2 := below_step hB1 hB1.size hb2))
  go_loopw [10, 31] (fun dv iv wr => ∃ (k : Nat) (ys : List Int) (as_ ad : Option Addr) (cs cd : Nat), k ≤ m ∧ iv = .int .i64 k ∧ ys.Nodup ∧ ys.length ≤ 100 + k ∧ dv = .slice ad ys.length cd ∧ Blk wr w2.heap.size 57 #[.slice as_ ys.length cs] ∧
    Sl .u64 wr as_ cs ys ∧ Sl .u64 wr ad cd ys ∧ Below w.heap.size w wr) (fun _ iv _ => (m - intOf iv).toNat)
  case atStart =>
    refine ⟨0, ofL xs, a1, a2, cp1, cp2, by omega, rfl, ofL_nodup xs, by omega, rfl, Blk.new _ _ _, (hs1.below hb2).below ((Below.refl _ _).alloc (Nat.le_refl _) _), hs2.below ((Below.refl _ _).alloc (Nat.le_refl _) _), hB2.alloc hB2.size _⟩
  case round =>
    obtain ⟨k, ys, as_, ad, cs, cd, hk, rfl, hnd, hyl, rfl, hbx, hs, hd, hB⟩ := hrel
    by_cases hlt : k < m
    · obtain ⟨ab, aoff, rfl, hab, hcs⟩ := hzc (by omega)
      obtain ⟨c0', c1'⟩ := hcs k hlt
      have c0 := (hB.cell (p := ⟨ab, aoff + k * 2, none⟩) hab).trans c0'
      have c1 := (hB.cell (p := ⟨ab, aoff + k * 2 + 1, none⟩) hab).trans c1'
      obtain ⟨g0, g1⟩ := hzwf (zs.getD k default) (getD_mem (by omega))
      clear c0' c1' hcs hzc hzwf
      generalize zs.getD k default = A at *
      obtain ⟨an, ao⟩ := A
      dsimp only at c0 c1 g0 g1
      have p0 := hbx.cell 0
      have p1 := hbx.frozen 0
      have hz1 := hbx.lt
      simp only [List.getElem?_toArray, List.getElem?_cons_zero] at p0
      cases ao with
      | true =>
        go_wp2_with fail
        generalize hW : wr.alloc (.cells #[.int .u64 an, .bool true] 61) = W
        have kb : Blk W w2.heap.size 57 #[.slice as_ ys.length cs] := hW ▸ hbx.alloc _
        have ka : Blk W wr.heap.size 61 #[.int .u64 an, .bool true] := hW ▸ Blk.new _ _ _
        have hBW : Below wr.heap.size wr W := hW ▸ (Below.refl _ _).alloc (Nat.le_refl _) _
        have hs3 := hs.below hBW
        have hd3 := hd.below hBW
        have k0 := kb.cell 0
        have k1 := kb.lt
        have k2 := ka.cell 0
        have k3 := ka.lt
        simp only [List.getElem?_toArray, List.getElem?_cons_zero] at k0 k2
        clear p0 p1 c0 c1
        refine wp_region_mix_tail (fun w' => Below W.heap.size W w') 8 [(0, true), (1, true), (2, true), (4, true), (5, true), (6, true), (3, false), (7, false)] (by kernel_rfl) (by kernel_rfl) ((Below.refl _ _).drew) ?_
        refine ord_still rfl rfl (fun K hK => ?_); apply Exists.intro; refine ⟨fun w' hw' => ?_, ?_⟩; (obtain ⟨bc, bf⟩ := bcell hw'; go_simp; first | done | exact ⟨rfl, rfl⟩ | exact rfl); (go_simp; refine hK _ ?_; clear hK K)
        refine ord_still rfl rfl (fun K hK => ?_); apply Exists.intro; refine ⟨fun w' hw' => ?_, ?_⟩; (obtain ⟨bc, bf⟩ := bcell hw'; go_simp; first | done | exact ⟨rfl, rfl⟩ | exact rfl); (go_simp; refine hK _ ?_; clear hK K)
        refine ord_still rfl rfl (fun K hK => ?_); apply Exists.intro; refine ⟨fun w' hw' => ?_, ?_⟩; (obtain ⟨bc, bf⟩ := bcell hw'; go_simp; first | done | exact ⟨rfl, rfl⟩ | exact rfl); (go_simp; refine hK _ ?_; clear hK K)
        refine ord_still rfl rfl (fun K hK => ?_); apply Exists.intro; refine ⟨fun w' hw' => ?_, ?_⟩; (obtain ⟨bc, bf⟩ := bcell hw'; go_simp; first | done | exact ⟨rfl, rfl⟩ | exact rfl); (go_simp; refine hK _ ?_; clear hK K)
        refine ord_still rfl rfl (fun K hK => ?_); apply Exists.intro; refine ⟨fun w' hw' => ?_, ?_⟩; (obtain ⟨bc, bf⟩ := bcell hw'; go_simp; first | done | exact ⟨rfl, rfl⟩ | exact rfl); (go_simp; refine hK _ ?_; clear hK K)
        refine ord_still rfl rfl (fun K hK => ?_); apply Exists.intro; refine ⟨fun w' hw' => ?_, ?_⟩; (obtain ⟨bc, bf⟩ := bcell hw'; go_simp; first | done | exact ⟨rfl, rfl⟩ | exact rfl); (go_simp; refine hK _ ?_; clear hK K)
        refine ord_sole rfl rfl (fun K hK => ?_); go_simp
        refine (snap_Without_nd _ _ ys an _ (hs3.below (below_drewN (Below.refl _ _) 1)) (by omega) hnd).mono ?_
        rintro e w3 ⟨a3, cp3, rfl, hs4, hl4, hb3⟩
        have hC1 : Below W.heap.size W w3 := below_step (below_drewN (Below.refl _ _) 1) (Nat.le_refl _) hb3
        refine ⟨_, rfl, hC1, ?_⟩
        go_simp
        refine hK _ _ ?_; clear hK K
        refine ord_sole rfl rfl (fun K hK => ?_); go_simp
        refine (ref03_Without _ _ ys an _ (hd3.below hC1) (by omega)).mono ?_
        rintro e w4 ⟨a4, cp4, rfl, hs5, hl5, hb4⟩
        have hC2 : Below W.heap.size W w4 := below_step hC1 hC1.size hb4
        refine ⟨_, rfl, hC2, ?_⟩
        go_simp
        refine hK _ _ ?_; clear hK K
        refine ord_nil ?_
        intro hC3
        simp only [List.drop_succ_cons, List.drop_zero]
        obtain ⟨bc, bf⟩ := bcell hC3
        have q1 := kb.frozen 0
        have kb4 := kb.of_below hC2
        have hnl := withoutL_length ys an
        have hB4 := below_step hB hB.size (hBW.trans (hC2.mono (by omega)))
        have r3 := (hs4.below hb4).box kb4 (.slice a3 (withoutL ys an).length cp3)
        have r4 := hs5.box kb4 (.slice a3 (withoutL ys an).length cp3)
        have kb5 : Blk _ w2.heap.size 57 #[.slice a3 (withoutL ys an).length cp3] := kb4.put 0 (.slice a3 (withoutL ys an).length cp3)
        have hB5 : Below w.heap.size w (w4.setCell ⟨w2.heap.size, 0, none⟩ (.slice a3 (withoutL ys an).length cp3)) := hB4.setCell (by simp; exact hB2.size) _
        go_wp2_with fail
        generalize w4.setCell ⟨w2.heap.size, 0, none⟩ (.slice a3 (withoutL ys an).length cp3) = W5 at *
        refine (snap_All _ _ (withoutL ys an) _ r3 (by omega)).mono ?_
        rintro e w6 ⟨a6, c6, rfl, ho6, hb6⟩
        go_wp2_with fail
        refine (slices_Equal_u64 _ _ _ _ (withoutL ys an) (withoutL ys an) _ (own_rd ho6) (r4.below hb6) (by omega) (by omega)).mono ?_
        rintro e w7 ⟨rfl, q, rfl⟩
        go_wp2_with fail
        have hb7 := below_drewN hb6 q
        go_roundw
        case rel => exact ⟨k + 1, withoutL ys an, a3, a4, cp3, cp4, by omega, by go_num, withoutL_nodup hnd an, by omega, rfl, kb5.of_below hb7, r3.below hb7, r4.below hb7, below_step hB5 hB5.size hb7⟩
        case measure => simp [intOf]; omega
      | false =>
        go_wp2_with fail
        generalize hW : wr.alloc (.cells #[.int .u64 an, .bool false] 61) = W
        have kb : Blk W w2.heap.size 57 #[.slice as_ ys.length cs] := hW ▸ hbx.alloc _
        have ka : Blk W wr.heap.size 61 #[.int .u64 an, .bool false] := hW ▸ Blk.new _ _ _
        have hBW : Below wr.heap.size wr W := hW ▸ (Below.refl _ _).alloc (Nat.le_refl _) _
        have hs3 := hs.below hBW
        have hd3 := hd.below hBW
        have k0 := kb.cell 0
        have k1 := kb.lt
        have k2 := ka.cell 0
        have k3 := ka.lt
        simp only [List.getElem?_toArray, List.getElem?_cons_zero] at k0 k2
        clear p0 p1 c0 c1
        refine wp_region_mix_tail (fun w' => Below W.heap.size W w') 8 [(0, true), (1, true), (2, true), (4, true), (5, true), (6, true), (3, false), (7, false)] (by kernel_rfl) (by kernel_rfl) ((Below.refl _ _).drew) ?_
        refine ord_still rfl rfl (fun K hK => ?_); apply Exists.intro; refine ⟨fun w' hw' => ?_, ?_⟩; (obtain ⟨bc, bf⟩ := bcell hw'; go_simp; first | done | exact ⟨rfl, rfl⟩ | exact rfl); (go_simp; refine hK _ ?_; clear hK K)
        refine ord_still rfl rfl (fun K hK => ?_); apply Exists.intro; refine ⟨fun w' hw' => ?_, ?_⟩; (obtain ⟨bc, bf⟩ := bcell hw'; go_simp; first | done | exact ⟨rfl, rfl⟩ | exact rfl); (go_simp; refine hK _ ?_; clear hK K)
        refine ord_still rfl rfl (fun K hK => ?_); apply Exists.intro; refine ⟨fun w' hw' => ?_, ?_⟩; (obtain ⟨bc, bf⟩ := bcell hw'; go_simp; first | done | exact ⟨rfl, rfl⟩ | exact rfl); (go_simp; refine hK _ ?_; clear hK K)
        refine ord_still rfl rfl (fun K hK => ?_); apply Exists.intro; refine ⟨fun w' hw' => ?_, ?_⟩; (obtain ⟨bc, bf⟩ := bcell hw'; go_simp; first | done | exact ⟨rfl, rfl⟩ | exact rfl); (go_simp; refine hK _ ?_; clear hK K)
        refine ord_still rfl rfl (fun K hK => ?_); apply Exists.intro; refine ⟨fun w' hw' => ?_, ?_⟩; (obtain ⟨bc, bf⟩ := bcell hw'; go_simp; first | done | exact ⟨rfl, rfl⟩ | exact rfl); (go_simp; refine hK _ ?_; clear hK K)
        refine ord_still rfl rfl (fun K hK => ?_); apply Exists.intro; refine ⟨fun w' hw' => ?_, ?_⟩; (obtain ⟨bc, bf⟩ := bcell hw'; go_simp; first | done | exact ⟨rfl, rfl⟩ | exact rfl); (go_simp; refine hK _ ?_; clear hK K)
        refine ord_sole rfl rfl (fun K hK => ?_); go_simp
        refine (snap_With _ _ ys an _ (hs3.below (below_drewN (Below.refl _ _) 1)) (by omega)).mono ?_
        rintro e w3 ⟨a3, cp3, rfl, hs4, hl4, hb3⟩
        have hC1 : Below W.heap.size W w3 := below_step (below_drewN (Below.refl _ _) 1) (Nat.le_refl _) hb3
        refine ⟨_, rfl, hC1, ?_⟩
        go_simp
        refine hK _ _ ?_; clear hK K
        refine ord_sole rfl rfl (fun K hK => ?_); go_simp
        refine (ref03_With _ _ ys an _ (hd3.below hC1) (by omega)).mono ?_
        rintro e w4 ⟨a4, cp4, rfl, hs5, hl5, hb4⟩
        have hC2 : Below W.heap.size W w4 := below_step hC1 hC1.size hb4
        refine ⟨_, rfl, hC2, ?_⟩
        go_simp
        refine hK _ _ ?_; clear hK K
        refine ord_nil ?_
        intro hC3
        simp only [List.drop_succ_cons, List.drop_zero]
        obtain ⟨bc, bf⟩ := bcell hC3
        have q1 := kb.frozen 0
        have kb4 := kb.of_below hC2
        have hnl := withL_length ys an
        have hB4 := below_step hB hB.size (hBW.trans (hC2.mono (by omega)))
        have r3 := (hs4.below hb4).box kb4 (.slice a3 (withL ys an).length cp3)
        have r4 := hs5.box kb4 (.slice a3 (withL ys an).length cp3)
        have kb5 : Blk _ w2.heap.size 57 #[.slice a3 (withL ys an).length cp3] := kb4.put 0 (.slice a3 (withL ys an).length cp3)
        have hB5 : Below w.heap.size w (w4.setCell ⟨w2.heap.size, 0, none⟩ (.slice a3 (withL ys an).length cp3)) := hB4.setCell (by simp; exact hB2.size) _
        go_wp2_with fail
        generalize w4.setCell ⟨w2.heap.size, 0, none⟩ (.slice a3 (withL ys an).length cp3) = W5 at *
        refine (snap_All _ _ (withL ys an) _ r3 (by omega)).mono ?_
        rintro e w6 ⟨a6, c6, rfl, ho6, hb6⟩
        go_wp2_with fail
        refine (slices_Equal_u64 _ _ _ _ (withL ys an) (withL ys an) _ (own_rd ho6) (r4.below hb6) (by omega) (by omega)).mono ?_
        rintro e w7 ⟨rfl, q, rfl⟩
        go_wp2_with fail
        have hb7 := below_drewN hb6 q
        go_roundw
        case rel => exact ⟨k + 1, withL ys an, a3, a4, cp3, cp4, by omega, by go_num, withL_nodup hnd an, by omega, rfl, kb5.of_below hb7, r3.below hb7, r4.below hb7, below_step hB5 hB5.size hb7⟩
        case measure => simp [intOf]; omega
    · have p0 := hbx.cell 0
      have p1 := hbx.frozen 0
      have hz1 := hbx.lt
      simp only [List.getElem?_toArray, List.getElem?_cons_zero] at p0
      by_cases hin : 0 ≤ i ∧ i < ys.length
      · obtain ⟨j, rfl⟩ := Int.eq_ofNat_of_zero_le hin.1
        have hj : j < ys.length := by omega
        obtain ⟨b', off, rfl, hbs, hc⟩ := hd.at_ (by omega)
        have c0 := hc j hj
        go_wp2_with fail
        refine (snap_At as_ cs ys _ _ hs (by omega) h0 h1).mono ?_
        rintro e w5 ⟨rfl, hb5⟩
        obtain ⟨bc5, bf5⟩ := bcell hb5
        have hz5 := hb5.size
        have hbx5 := hbx.of_below hb5
        have p5 := hbx5.cell 0
        have f5 := hbx5.frozen 0
        simp only [List.getElem?_toArray, List.getElem?_cons_zero] at p5
        have e1 : (if (0:Int) ≤ (j:Int) then ys.getD (j:Int).toNat 0 else 0) = ys.getD j 0 := by simp
        have e2 : decide (0 ≤ (j:Int) ∧ (j:Int) < ys.length) = true := by simp; omega
        rw [e1, e2]
        go_wp2_with (first | (go_at_call 60; refine (snap_Len as_ cs ys _).mono ?_; rintro e w6 ⟨rfl, hb6⟩; have p6 := (hbx5.of_below hb6).cell 0; have f6 := (hbx5.of_below hb6).frozen 0; simp only [List.getElem?_toArray, List.getElem?_cons_zero] at p6) | (go_at_call 61; refine (snap_Index as_ cs ys v _ ((hs.below hb5).below hb6) (by omega)).mono ?_; rintro e w7 ⟨rfl, hb7⟩) | (go_at_call 62; refine (ref03_Index _ _ ys v _ (((hd.below hb5).below hb6).below hb7) (by omega)).mono ?_; rintro e w8 ⟨rfl, rfl⟩))
        all_goals (go_ret; exact ⟨by simp, below_step (below_step (below_step hB hB.size hb5) (Nat.le_trans hB.size hz5) hb6) (Nat.le_trans hB.size (Nat.le_trans hz5 hb6.size)) hb7⟩)
      · go_wp2_with fail
        refine (snap_At as_ cs ys _ _ hs (by omega) h0 h1).mono ?_
        rintro e w5 ⟨rfl, hb5⟩
        obtain ⟨bc5, bf5⟩ := bcell hb5
        have hz5 := hb5.size
        have hbx5 := hbx.of_below hb5
        have p5 := hbx5.cell 0
        have f5 := hbx5.frozen 0
        simp only [List.getElem?_toArray, List.getElem?_cons_zero] at p5
        have e1 : (if (0:Int) ≤ i then ys.getD i.toNat 0 else 0) = 0 := by
          split
          · rw [List.getD_eq_getElem?_getD, List.getElem?_eq_none (by omega)]; rfl
          · rfl
        have e2 : decide (0 ≤ i ∧ i < ys.length) = false := by simp; omega
        rw [e1, e2]
        go_wp2_with (first | (go_at_call 60; refine (snap_Len as_ cs ys _).mono ?_; rintro e w6 ⟨rfl, hb6⟩; have p6 := (hbx5.of_below hb6).cell 0; have f6 := (hbx5.of_below hb6).frozen 0; simp only [List.getElem?_toArray, List.getElem?_cons_zero] at p6) | (go_at_call 61; refine (snap_Index as_ cs ys v _ ((hs.below hb5).below hb6) (by omega)).mono ?_; rintro e w7 ⟨rfl, hb7⟩) | (go_at_call 62; refine (ref03_Index _ _ ys v _ (((hd.below hb5).below hb6).below hb7) (by omega)).mono ?_; rintro e w8 ⟨rfl, rfl⟩))
        all_goals (go_ret; exact ⟨by simp, below_step (below_step (below_step hB hB.size hb5) (Nat.le_trans hB.size hz5) hb6) (Nat.le_trans hB.size (Nat.le_trans hz5 hb6.size)) hb7⟩)
end Go.Proofs.Ytebifndgdfalnaa
