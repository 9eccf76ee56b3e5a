/- The law SnapStays. -/
import Derived.Test.YthjefbfhpdbcjaaSnS
namespace Go.Proofs.Ythjefbfhpdbcjaa
open Go.RowKit
set_option linter.unusedVariables false
set_option linter.unusedSimpArgs false
set_option maxRecDepth 100000
set_option maxHeartbeats 4000000 in
theorem law_SnapStays (a : Option Addr) (n cap : Nat) (xs : List Int) (b : Option Addr) (m mcap : Nat) (zs : List SAct) (w : World) (hx : Nums .u64 w a n cap xs) (hz : SActsIn w b m zs) :
    Calls Try.prog 3 #[.slice a n cap, .slice b m mcap] w fun e w' => e = .returned (.bool true) ∧ RowKit.Below w.heap.size w w' := by
  obtain ⟨rfl, hn, hwf, hsx⟩ := hx
  obtain ⟨hzl, hm, hzwf, hzc⟩ := hz
  by_cases hbig : 100 < xs.length
  · go_enter Try.func3, Try.ntmps3
    go_wp2_with (first | (go_at_call 4; refine (law03_awake _).mono ?_; rintro e w' ⟨rfl, hb⟩))
    go_ret
    exact ⟨rfl, hb⟩
  by_cases hbig2 : 60 < m
  · go_enter Try.func3, Try.ntmps3
    go_wp2_with (first | (go_at_call 4; refine (law03_awake _).mono ?_; rintro e w' ⟨rfl, hb⟩))
    go_ret
    exact ⟨rfl, hb⟩
  have hol := ofL_len xs
  have HSX := Lib.hid hsx; clear hsx
  have HZW := Lib.hid hzwf; clear hzwf
  have HZC := Lib.hid hzc; clear hzc
  go_enter Try.func3, Try.ntmps3
  go_upto_region 6 with (first | (go_at_call 4; refine (law03_awake _).mono ?_; rintro e w0 ⟨rfl, hb0⟩) | (go_at_call 5; refine (snap_Of _ _ _ _ (HSX.out.below hb0) (by omega)).mono ?_; rintro e w1 ⟨a1, cp1, rfl, hs1, hl1, hb1⟩; have HB1 := Lib.hid (below_step hb0 hb0.size hb1); clear hb0 hb1; have HL1 := Lib.hid hl1; clear hl1; have HS1 := Lib.hid hs1; clear hs1))
  go_name_world W hW
  have HKB : Hid (Blk W w1.heap.size 26 #[.slice a1 (ofL xs).length cp1]) := Lib.hid (hW ▸ Blk.new _ _ _)
  have HBW : Hid (RowKit.Below w1.heap.size w1 W) := Lib.hid (hW ▸ (RowKit.Below.refl _ _).alloc (Nat.le_refl _) _)
  clear hW
  have HSW := Lib.hid (HS1.out.below HBW.out)
  have HWB := Lib.hid (below_step HB1.out HB1.out.size HBW.out)
  have HND := Lib.hid (ofL_nodup xs)
  clear HS1 HL1 HBW
  generalize ofL xs = ys at *
  have hyl : ys.length ≤ 100 := by omega
  clear hol
  have hsz := HWB.out.size
  go_cut [6, 7] from 28 to 32 (fun v6 v7 wx => ∃ (e : En) (A1 : Option Addr) (c1 : Nat) (D1 : Option Addr) (d1 : Nat), v6 = .slice A1 1 c1 ∧ v7 = .slice D1 1 d1 ∧ Hid (St w.heap.size wx [e] A1 c1 D1 d1) ∧ Hid (RowKit.Below w.heap.size w wx))
  case first =>
    have hyl2 : ys.length ≤ 1000000 := by omega
    have HX : Hid (∀ w', RowKit.Below W.heap.size W w' → w'.cell? ⟨w1.heap.size, 0, none⟩ = some (.slice a1 ys.length cp1)) := Lib.hid fun w' hw' => by rw [(HKB.out.of_below hw').cell]; rfl
    refine wp_region_mixS (fun w' => RowKit.Below W.heap.size W w') (.calm 0 (.calm 2 (.fork 1 3 (.sole 3 (.calm 5 (.sole 4 (.calm 6 .nil)))) (.fork 1 4 (.calm 5 (.sole 4 (.calm 6 .nil))) (.sole 1 (.calm 5 (.calm 6 .nil))))))) (by kernel_rfl) (by kernel_rfl) (RowKit.Below.refl _ _).drew ?_
    refine os_still rfl rfl (fun K hK => ?_); apply Exists.intro; refine ⟨fun w' hw' => ?_, ?_⟩; (have z0 := HX.out w' hw'; go_simp; first | done | exact ⟨rfl, rfl⟩ | exact rfl); (go_simp; refine hK _ (fun v1 hC1 hu1 => ?_); clear hK K)
    have HC := Lib.hid hC1; clear hC1
    clear hu1
    refine os_still rfl rfl (fun K hK => ?_); apply Exists.intro; refine ⟨fun w' hw' => ?_, ?_⟩; (have z0 := HX.out w' hw'; go_simp; first | done | exact ⟨rfl, rfl⟩ | exact rfl); (go_simp; refine hK _ (fun v2 hC1 hu1 => ?_); clear hK K)
    have HC := Lib.hid hC1; clear hC1
    clear hu1
    refine os_fork rfl rfl rfl rfl (fun K hK => ?_) (fun K hK => ?_)
    · go_simp
      refine ⟨HC.out.alloc HC.out.size _, ?_⟩
      refine hK _ _ (fun v3 hC1 hu1 => ?_); clear hK K
      have HLA := Lib.hid HC.out.size
      have HXA := Lib.hid (own_below (World.ownsRow_lit (base := w.heap.size) (e := 26) (size := 1) v2 #[.slice a1 ys.length cp1] 1 (Nat.le_trans hsz HC.out.size) (by decide) rfl) hu1)
      have HC := Lib.hid hC1; clear hC1
      clear hu1
      refine os_sole rfl rfl (fun K hK => ?_)
      go_simp
      refine (snap_All _ _ ys v3 (HSW.out.below HC.out) hyl2).mono ?_
      rintro e w5 ⟨wa, wc, rfl, ho, hb5⟩
      have HC5 := Lib.hid (below_step HC.out HC.out.size hb5)
      refine ⟨_, rfl, HC5.out, ?_⟩
      go_simp
      refine hK _ _ (fun v4 hC1 hu1 => ?_); clear hK K
      have HRO := Lib.hid (own_mono (own_below ho hu1) HC.out.size); clear ho
      have HXA := Lib.hid (own_below (own_below HXA.out hb5) hu1)
      have HC := Lib.hid hC1; clear hC1 HC5
      clear hu1 hb5
      refine os_still rfl rfl (fun K hK => ?_); apply Exists.intro; refine ⟨fun w' hw' => ?_, ?_⟩; (have z0 := HX.out w' hw'; go_simp; first | done | exact ⟨rfl, rfl⟩ | exact rfl); (go_simp; refine hK _ (fun v5 hC1 hu1 => ?_); clear hK K)
      have HC := Lib.hid hC1; clear hC1
      have HXA := Lib.hid (own_below HXA.out hu1)
      have HRO := Lib.hid (own_below HRO.out hu1)
      clear hu1
      refine os_sole rfl rfl (fun K hK => ?_)
      go_simp
      refine ⟨HC.out.alloc HC.out.size _, ?_⟩
      refine hK _ _ (fun v6 hC1 hu1 => ?_); clear hK K
      have HLB := Lib.hid HC.out.size
      have HXB := Lib.hid (own_below (World.ownsRow_lit (base := w.heap.size) (e := 22) (size := 1) v5 #[.slice wa ys.length wc] 1 (Nat.le_trans hsz HC.out.size) (by decide) rfl) hu1)
      have HXA := Lib.hid (own_below (own_below HXA.out ((RowKit.Below.refl _ _).alloc (Nat.le_refl _) _)) hu1)
      have HRO := Lib.hid (own_below (own_below HRO.out ((RowKit.Below.refl _ _).alloc (Nat.le_refl _) _)) hu1)
      have HC := Lib.hid hC1; clear hC1
      clear hu1
      refine os_still rfl rfl (fun K hK => ?_); apply Exists.intro; refine ⟨fun w' hw' => ?_, ?_⟩; (have z0 := HX.out w' hw'; go_simp; first | done | exact ⟨rfl, rfl⟩ | exact rfl); (go_simp; refine hK _ (fun v7 hC1 hu1 => ?_); clear hK K)
      have HC := Lib.hid hC1; clear hC1
      have HXA := Lib.hid (own_below HXA.out hu1)
      have HRO := Lib.hid (own_below HRO.out hu1)
      have HXB := Lib.hid (own_below HXB.out hu1)
      clear hu1
      refine os_nil ?_
      intro hC9
      go_wp2_with fail
      go_meet
      refine ⟨⟨a1, cp1, wa, wc, ys⟩, _, _, _, _, rfl, rfl, Lib.hid (St.step (St.nil w.heap.size W) HSW.out HND.out (fun q _ _ => by rintro (h | h) <;> cases h) (by simp; omega) ⟨Grew.of_below HC.out _, HXA.out, .inr ⟨_, rfl, HLA.out⟩, HXB.out, .inr ⟨_, rfl, HLB.out⟩, HRO.out⟩), Lib.hid (below_step HWB.out HWB.out.size HC.out)⟩
    · go_simp
      refine (snap_All _ _ ys v2 (HSW.out.below HC.out) hyl2).mono ?_
      rintro e w5 ⟨wa, wc, rfl, ho, hb5⟩
      have HC5 := Lib.hid (below_step HC.out HC.out.size hb5)
      refine ⟨_, rfl, HC5.out, ?_⟩
      go_simp
      refine hK _ _ (fun v8 hC1 hu1 => ?_); clear hK K
      have HRO := Lib.hid (own_mono (own_below ho hu1) HC.out.size); clear ho
      have HC := Lib.hid hC1; clear hC1 HC5
      clear hu1 hb5
      refine os_fork rfl rfl rfl rfl (fun K hK => ?_) (fun K hK => ?_)
      · go_simp
        refine ⟨HC.out.alloc HC.out.size _, ?_⟩
        refine hK _ _ (fun v9 hC1 hu1 => ?_); clear hK K
        have HLA := Lib.hid HC.out.size
        have HXA := Lib.hid (own_below (World.ownsRow_lit (base := w.heap.size) (e := 26) (size := 1) v8 #[.slice a1 ys.length cp1] 1 (Nat.le_trans hsz HC.out.size) (by decide) rfl) hu1)
        have HRO := Lib.hid (own_below (own_below HRO.out ((RowKit.Below.refl _ _).alloc (Nat.le_refl _) _)) hu1)
        have HC := Lib.hid hC1; clear hC1
        clear hu1
        refine os_still rfl rfl (fun K hK => ?_); apply Exists.intro; refine ⟨fun w' hw' => ?_, ?_⟩; (have z0 := HX.out w' hw'; go_simp; first | done | exact ⟨rfl, rfl⟩ | exact rfl); (go_simp; refine hK _ (fun v10 hC1 hu1 => ?_); clear hK K)
        have HC := Lib.hid hC1; clear hC1
        have HRO := Lib.hid (own_below HRO.out hu1)
        have HXA := Lib.hid (own_below HXA.out hu1)
        clear hu1
        refine os_sole rfl rfl (fun K hK => ?_)
        go_simp
        refine ⟨HC.out.alloc HC.out.size _, ?_⟩
        refine hK _ _ (fun v11 hC1 hu1 => ?_); clear hK K
        have HLB := Lib.hid HC.out.size
        have HXB := Lib.hid (own_below (World.ownsRow_lit (base := w.heap.size) (e := 22) (size := 1) v10 #[.slice wa ys.length wc] 1 (Nat.le_trans hsz HC.out.size) (by decide) rfl) hu1)
        have HRO := Lib.hid (own_below (own_below HRO.out ((RowKit.Below.refl _ _).alloc (Nat.le_refl _) _)) hu1)
        have HXA := Lib.hid (own_below (own_below HXA.out ((RowKit.Below.refl _ _).alloc (Nat.le_refl _) _)) hu1)
        have HC := Lib.hid hC1; clear hC1
        clear hu1
        refine os_still rfl rfl (fun K hK => ?_); apply Exists.intro; refine ⟨fun w' hw' => ?_, ?_⟩; (have z0 := HX.out w' hw'; go_simp; first | done | exact ⟨rfl, rfl⟩ | exact rfl); (go_simp; refine hK _ (fun v12 hC1 hu1 => ?_); clear hK K)
        have HC := Lib.hid hC1; clear hC1
        have HRO := Lib.hid (own_below HRO.out hu1)
        have HXA := Lib.hid (own_below HXA.out hu1)
        have HXB := Lib.hid (own_below HXB.out hu1)
        clear hu1
        refine os_nil ?_
        intro hC9
        go_wp2_with fail
        go_meet
        refine ⟨⟨a1, cp1, wa, wc, ys⟩, _, _, _, _, rfl, rfl, Lib.hid (St.step (St.nil w.heap.size W) HSW.out HND.out (fun q _ _ => by rintro (h | h) <;> cases h) (by simp; omega) ⟨Grew.of_below HC.out _, HXA.out, .inr ⟨_, rfl, HLA.out⟩, HXB.out, .inr ⟨_, rfl, HLB.out⟩, HRO.out⟩), Lib.hid (below_step HWB.out HWB.out.size HC.out)⟩
      · go_simp
        refine ⟨HC.out.alloc HC.out.size _, ?_⟩
        refine hK _ _ (fun v13 hC1 hu1 => ?_); clear hK K
        have HLB := Lib.hid HC.out.size
        have HXB := Lib.hid (own_below (World.ownsRow_lit (base := w.heap.size) (e := 22) (size := 1) v8 #[.slice wa ys.length wc] 1 (Nat.le_trans hsz HC.out.size) (by decide) rfl) hu1)
        have HRO := Lib.hid (own_below (own_below HRO.out ((RowKit.Below.refl _ _).alloc (Nat.le_refl _) _)) hu1)
        have HC := Lib.hid hC1; clear hC1
        clear hu1
        refine os_sole rfl rfl (fun K hK => ?_)
        go_simp
        refine ⟨HC.out.alloc HC.out.size _, ?_⟩
        refine hK _ _ (fun v14 hC1 hu1 => ?_); clear hK K
        have HLA := Lib.hid HC.out.size
        have HXA := Lib.hid (own_below (World.ownsRow_lit (base := w.heap.size) (e := 26) (size := 1) v13 #[.slice a1 ys.length cp1] 1 (Nat.le_trans hsz HC.out.size) (by decide) rfl) hu1)
        have HRO := Lib.hid (own_below (own_below HRO.out ((RowKit.Below.refl _ _).alloc (Nat.le_refl _) _)) hu1)
        have HXB := Lib.hid (own_below (own_below HXB.out ((RowKit.Below.refl _ _).alloc (Nat.le_refl _) _)) hu1)
        have HC := Lib.hid hC1; clear hC1
        clear hu1
        refine os_still rfl rfl (fun K hK => ?_); apply Exists.intro; refine ⟨fun w' hw' => ?_, ?_⟩; (have z0 := HX.out w' hw'; go_simp; first | done | exact ⟨rfl, rfl⟩ | exact rfl); (go_simp; refine hK _ (fun v15 hC1 hu1 => ?_); clear hK K)
        have HC := Lib.hid hC1; clear hC1
        have HRO := Lib.hid (own_below HRO.out hu1)
        have HXB := Lib.hid (own_below HXB.out hu1)
        have HXA := Lib.hid (own_below HXA.out hu1)
        clear hu1
        refine os_still rfl rfl (fun K hK => ?_); apply Exists.intro; refine ⟨fun w' hw' => ?_, ?_⟩; (have z0 := HX.out w' hw'; go_simp; first | done | exact ⟨rfl, rfl⟩ | exact rfl); (go_simp; refine hK _ (fun v16 hC1 hu1 => ?_); clear hK K)
        have HC := Lib.hid hC1; clear hC1
        have HRO := Lib.hid (own_below HRO.out hu1)
        have HXB := Lib.hid (own_below HXB.out hu1)
        have HXA := Lib.hid (own_below HXA.out hu1)
        clear hu1
        refine os_nil ?_
        intro hC9
        go_wp2_with fail
        go_meet
        refine ⟨⟨a1, cp1, wa, wc, ys⟩, _, _, _, _, rfl, rfl, Lib.hid (St.step (St.nil w.heap.size W) HSW.out HND.out (fun q _ _ => by rintro (h | h) <;> cases h) (by simp; omega) ⟨Grew.of_below HC.out _, HXA.out, .inr ⟨_, rfl, HLA.out⟩, HXB.out, .inr ⟨_, rfl, HLB.out⟩, HRO.out⟩), Lib.hid (below_step HWB.out HWB.out.size HC.out)⟩
  case rest =>
    clear HKB HSW HWB HB1 hsz
    obtain ⟨e, A1, c1, D1, d1, rfl, rfl, HST, HB⟩ := hcut
    go_wp2_with fail
    go_loopg [6, 7, 35] (m + 1) (fun gh v6 v7 iv wr => ∃ (k : Nat) (L : List En) (A : Option Addr) (c : Nat) (D : Option Addr) (d : Nat), k ≤ m ∧ gh = m + 1 - k ∧ iv = .int .i64 k ∧ Hid (L.length = k + 1) ∧ v6 = .slice A L.length c ∧ v7 = .slice D L.length d ∧ Hid (St w.heap.size wr L A c D d) ∧ Hid (RowKit.Below w.heap.size w wr))
    case atStart => exact ⟨0, [e], A1, c1, D1, d1, by omega, by omega, rfl, Lib.hid rfl, rfl, rfl, HST, HB⟩
    case round =>
      clear HST HB
      obtain ⟨k, L, A, c, D, d, hk, rfl, rfl, HLN, rfl, rfl, HST, HB⟩ := hrel
      by_cases hlt : k < m
      · obtain ⟨ab, aoff, rfl, hab, hcs⟩ := HZC.out (by omega)
        obtain ⟨c0', c1'⟩ := hcs k hlt
        have c0 := (HB.out.cell (p := ⟨ab, aoff + k * 2, none⟩) hab).trans c0'
        have c1 := (HB.out.cell (p := ⟨ab, aoff + k * 2 + 1, none⟩) hab).trans c1'
        obtain ⟨g0, g1⟩ := HZW.out (zs.getD k default) (getD_mem (by omega))
        clear c0' c1' hcs
        generalize zs.getD k default = act at *
        obtain ⟨an, ao⟩ := act
        dsimp only at c0 c1 g0 g1
        have habr : ab < wr.heap.size := Nat.lt_of_lt_of_le hab HB.out.size
        obtain ⟨q, hq⟩ : ∃ q, q = k / 2 := ⟨_, rfl⟩
        have hdv : (k : Int) / 2 = (q : Int) := by omega
        have hLl := HLN.out
        have hqL : q < L.length := by omega
        have hL61 : L.length ≤ 61 := by omega
        have hqI : (q : Int) < (L.length : Int) := by omega
        clear hq hLl
        obtain ⟨ba, bd, rfl, rfl, hba1, hbd1, hba, hbd, hca, hcd⟩ := HST.out.at_ hqL
        obtain ⟨hG, hGl⟩ := HST.out.get hqL
        have HG := Lib.hid hG; clear hG
        clear hcd
        generalize L.getD q default = E at *
        obtain ⟨sa, sc, wa, wc, ys⟩ := E
        unfold En.cs at hca
        dsimp only at hca hGl
        have HE := Lib.hid (show Sl .u64 wr sa sc ys from HG.out.s)
        have HEN := Lib.hid (show ∀ q, sa = some q → 0 < ys.length → ¬ Touch (.slice (some ⟨ba, 0, none⟩) L.length c) (.slice (some ⟨bd, 0, none⟩) L.length d) q.block from HG.out.ns)
        have HED := Lib.hid (show ys.Nodup from HG.out.nd)
        clear HG
        have hy1 : ys.length ≤ 100000 := by omega
        go_upto_if 50 with fail
        obtain ⟨w2, hw2⟩ : ∃ w2 : World, w2 = (wr.alloc (.cells #[.int .u64 an, .bool ao] 33)).alloc (.cells #[.slice sa ys.length sc] 26) := ⟨_, rfl⟩
        rw [← hw2]
        have hbw : RowKit.Below wr.heap.size wr w2 := hw2 ▸ ((RowKit.Below.refl _ _).alloc (Nat.le_refl _) _).alloc (by simp) _
        have hka : Blk w2 wr.heap.size 33 #[.int .u64 an, .bool ao] := hw2 ▸ (Blk.new wr _ _).alloc _
        have hkf : Blk w2 (wr.heap.size + 1) 26 #[.slice sa ys.length sc] := by
          have := Blk.new (wr.alloc (.cells #[.int .u64 an, .bool ao] 33)) 26 #[.slice sa ys.length sc]
          rw [World.size_alloc] at this
          rw [hw2]; exact this
        clear hw2
        refine (snap_With2 sa sc ys an w2 (HE.out.below hbw) hy1).mono ?_
        rintro e3 w3 ⟨a3, c3, rfl, hs3, hl3, hb3⟩
        have hka3 := hka.of_below hb3
        have hkf3 := hkf.of_below hb3
        have HB3 := Lib.hid (below_step hbw hbw.size hb3)
        have HS3 := Lib.hid hs3; clear hs3
        have HL3 := Lib.hid hl3; clear hl3
        have hw2s := hbw.size
        clear hb3 hbw hka hkf
        have za := hka3.lt
        have zf := hkf3.lt
        have qa0 := hka3.cell 0
        have qa1 := hka3.cell 1
        have qf0 := hkf3.cell 0
        simp only [List.getElem?_toArray, List.getElem?_cons_zero, List.getElem?_cons_succ] at qa0 qa1 qf0
        have HKA := Lib.hid hka3; clear hka3
        have HKF := Lib.hid hkf3; clear hkf3
        clear c0 c1 hca
        go_upto_if 50 with fail
        have hT := touch_lt HST.out.ra HST.out.rb
        have HT := Lib.hid hT; clear hT
        obtain ⟨T, hTd⟩ : ∃ T, T = Touch (.slice (some ⟨ba, 0, none⟩) L.length c) (.slice (some ⟨bd, 0, none⟩) L.length d) := ⟨_, rfl⟩
        rw [← hTd] at HT HEN
        have HTD := Lib.hid hTd; clear hTd
        go_cut [11] from 49 to 54 (fun v11 wx => v11 = .pointer (some ⟨w3.heap.size, 0, none⟩) ∧ ∃ (a' : Option Addr) (c' : Nat) (ys' : List Int), Hid (Nx wr wx T L.length an ao w3.heap.size a' c' ys'))
        case first =>
          have hB4 := below_step HB3.out HB3.out.size ((RowKit.Below.refl w3.heap.size w3).alloc (Nat.le_refl _) (.cells #[.slice a3 (withL ys an).length c3] 26))
          cases ao
          · go_wp2_with fail
            go_meet
            have hwl := withL_length ys an
            exact ⟨rfl, a3, c3, withL ys an, Lib.hid ⟨Blk.new _ _ _, HKA.out.alloc _, HS3.out.below ((RowKit.Below.refl _ _).alloc (Nat.le_refl _) _), withL_nodup HED.out an, by omega, fun q hq h0 => (by
              rcases HL3.out with ⟨hm, e⟩ | hf
              · subst e; exact HEN.out q hq (List.length_pos_of_mem hm)
              · intro ht
                have := (HT.out _ ht).2
                have := hf q hq
                omega), by (have : ¬ idxI (withL ys an) an < 0 := fun h => idxI_neg.1 h (mem_withL_self ys an)); simp [this], hB4, za⟩⟩
          · obtain ⟨w4, hw4⟩ : ∃ w4 : World, w4 = w3.alloc (.cells #[.slice a3 (withL ys an).length c3] 26) := ⟨_, rfl⟩
            have k4 : Blk w4 w3.heap.size 26 #[.slice a3 (withL ys an).length c3] := hw4 ▸ Blk.new _ _ _
            have u4 : RowKit.Below w3.heap.size w3 w4 := hw4 ▸ (RowKit.Below.refl _ _).alloc (Nat.le_refl _) _
            rw [← hw4] at hB4 ⊢
            clear hw4
            have f4 := HKF.out.of_below u4
            have a4 := HKA.out.of_below u4
            have z4 := k4.lt
            have qk := a4.cell 0
            have qf := f4.cell 0
            simp only [List.getElem?_toArray, List.getElem?_cons_zero] at qk qf
            have K4 := Lib.hid k4; clear k4
            have A4 := Lib.hid a4; clear a4
            have HB4 := Lib.hid hB4; clear hB4
            clear qa0 qa1 qf0 f4 u4 HKF
            go_wp2_with fail
            refine (snap_Without sa sc ys an w4 (HE.out.below HB4.out) hy1).mono ?_
            rintro e5 w5 ⟨a5, c5, rfl, hs5, hl5, hb5⟩
            have k5 := K4.out.of_below hb5
            have A5 := Lib.hid (A4.out.of_below hb5)
            have HB5 := Lib.hid (below_step HB4.out HB4.out.size hb5)
            have zk5 := k5.frozen 0
            have zc5 := k5.cell 0
            simp only [List.getElem?_toArray, List.getElem?_cons_zero] at zc5
            have z5 := k5.lt
            have h4s := HB4.out.size
            clear hb5
            have hel := List.length_erase_le (a := an) (l := ys)
            go_wp2_with fail
            go_meet
            exact ⟨rfl, a5, c5, ys.erase an, Lib.hid ⟨k5.put 0 _, A5.out.far (by simp; omega) _, hs5.box k5 _, HED.out.erase an, by omega, fun q hq h0 => (by
              rcases hl5 with e | hf
              · subst e; exact HEN.out q hq (by omega)
              · intro ht
                have := (HT.out _ ht).2
                have := hf q hq
                omega), by (have : idxI (ys.erase an) an < 0 := idxI_neg.2 (not_mem_erase HED.out an)); simp [this], HB5.out.setCell (by simp; omega) _, za⟩⟩
        case rest =>
          clear HB3 HS3 HL3 HKA HKF qa0 qa1 qf0
          obtain ⟨rfl, a', c', ys', HN⟩ := hcut
          obtain ⟨wx, hwx⟩ : ∃ wx : World, wx = wc := ⟨_, rfl⟩
          subst hwx
          have hgn := HN.out.gl
          have hgnl := HN.out.bn.lt
          have hnT : ¬ T w3.heap.size := fun ht => by have := (HT.out _ ht).2; omega
          have hnA : ¬ T wr.heap.size := fun ht => by have := (HT.out _ ht).2; omega
          have hy2 : ys'.length ≤ 1000000 := by have := HN.out.le; omega
          have hwcs := HN.out.b.size
          have hwrs := HB.out.size
          have HST2 := Lib.hid (HST.out.below HN.out.b); clear HST
          go_upto_region 14 with fail
          go_cut [6, 7] from 55 to 63 (fun v6 v7 wy => ∃ (A2 : Option Addr) (c2 : Nat) (D2 : Option Addr) (d2 : Nat) (wa2 : Option Addr) (wc2 : Nat), v6 = .slice A2 (L.length + 1) c2 ∧ v7 = .slice D2 (L.length + 1) d2 ∧
            Hid (Reg w.heap.size wx wy L.length (L.map En.cs) (L.map En.cw) (some ⟨ba, 0, none⟩) c (some ⟨bd, 0, none⟩) d (.slice a' ys'.length c') ys' A2 c2 D2 d2 wa2 wc2))
          case first =>
            have HX : Hid (∀ w', Grew wx w' T → w'.cell? ⟨w3.heap.size, 0, none⟩ = some (.slice a' ys'.length c')) := Lib.hid fun w' hw' => by rw [(HN.out.bn.grew hw' hnT).cell]; rfl
            obtain ⟨V, hV⟩ : ∃ V : World, V = wx.drew := ⟨_, rfl⟩
            have HRA : Hid (V.ownsRow w.heap.size 26 1 (.slice (some ⟨ba, 0, none⟩) L.length c) L.length (L.map En.cs)) := Lib.hid (hV ▸ HST2.out.ra.drew)
            have HRB : Hid (V.ownsRow w.heap.size 22 1 (.slice (some ⟨bd, 0, none⟩) L.length d) L.length (L.map En.cw)) := Lib.hid (hV ▸ HST2.out.rb.drew)
            have HC : Hid (Grew wx V T) := Lib.hid (hV ▸ (Grew.refl wx T).drew)
            refine wp_region_mix (fun w' => Grew wx w' T) [(0, true), (1, true), (4, true), (5, true), (2, false), (3, false), (6, false), (7, false), (8, false), (9, true), (10, true)] (by kernel_rfl) (by kernel_rfl) (Grew.refl wx T).drew ?_
            rw [← hV]
            clear hV
            refine ord_still rfl rfl (fun K hK => ?_); apply Exists.intro; refine ⟨fun w' hw' => ?_, ?_⟩; (have z0 := HX.out w' hw'; go_simp; first | done | exact ⟨rfl, rfl⟩ | exact rfl); (go_simp; refine hK _ ?_; clear hK K)
            refine ord_still rfl rfl (fun K hK => ?_); apply Exists.intro; refine ⟨fun w' hw' => ?_, ?_⟩; (have z0 := HX.out w' hw'; go_simp; first | done | exact ⟨rfl, rfl⟩ | exact rfl); (go_simp; refine hK _ ?_; clear hK K)
            refine ord_still rfl rfl (fun K hK => ?_); apply Exists.intro; refine ⟨fun w' hw' => ?_, ?_⟩; (have z0 := HX.out w' hw'; go_simp; first | done | exact ⟨rfl, rfl⟩ | exact rfl); (go_simp; refine hK _ ?_; clear hK K)
            refine ord_still rfl rfl (fun K hK => ?_); apply Exists.intro; refine ⟨fun w' hw' => ?_, ?_⟩; (have z0 := HX.out w' hw'; go_simp; first | done | exact ⟨rfl, rfl⟩ | exact rfl); (go_simp; refine hK _ ?_; clear hK K)
            refine ord_sole rfl rfl (fun K hK => ?_)
            have HXA := Lib.hid (World.ownsRow_lit (base := wx.heap.size) (e := 26) (size := 1) V #[.slice a' ys'.length c'] 1 HC.out.size (by decide) rfl)
            obtain ⟨V1, hV1⟩ : ∃ V1 : World, V1 = V.alloc (.cells #[.slice a' ys'.length c'] 26) := ⟨_, rfl⟩
            obtain ⟨g1, hg1⟩ : ∃ g1, g1 = V.heap.size := ⟨_, rfl⟩
            have u1 : RowKit.Below V.heap.size V V1 := hV1 ▸ (RowKit.Below.refl _ _).alloc (Nat.le_refl _) _
            have HC1 := Lib.hid (HC.out.up u1)
            go_simp
            rw [← hV1, ← hg1] at HXA ⊢
            refine ⟨HC1.out, ?_⟩
            refine hK _ _ ?_; clear hK K
            have HRA := Lib.hid (own_below HRA.out u1)
            have HRB := Lib.hid (own_below HRB.out u1)
            clear u1 hV1 hg1 HC
            refine ord_sole rfl rfl (fun K hK => ?_)
            obtain ⟨A2, c2, V2, hrun, h2, h3, h4⟩ := run_app_own (P := Try.prog) V1 w.heap.size 28 28 26 (.agg #[.slice none 0 0]) 1 24 Try.underlying28 Try.infoSnap rfl (by decide) (.slice (some ⟨ba, 0, none⟩) L.length c) L.length _ HRA.out _ 1 1 _ (own_rd HXA.out) (by simp [Value.oneCell']) (by omega) (by omega) (by have := HC1.out.size; omega)
            have hown : ∀ k, (Value.slice (some ⟨ba, 0, none⟩) L.length c).ownBlock = some k → T k := fun k hk => by rw [HTD.out]; exact .inl hk
            have HC2 := Lib.hid (HC1.out.grown h3 (fun k hk => .inl (hown k hk)))
            refine mix_app rfl rfl rfl hrun HC2.out ?_
            go_simp
            refine hK _ _ ?_; clear hK K hrun hown
            have HRB := Lib.hid (own_other HRB.out HRA.out h3 (by decide))
            have HRA := Lib.hid h2; clear h2 h3
            have HLA : Hid ((Value.slice A2 (L.length + 1) c2).ownBlock = (Value.slice (some ⟨ba, 0, none⟩) L.length c).ownBlock ∨ ∃ b, (Value.slice A2 (L.length + 1) c2).ownBlock = some b ∧ wx.heap.size ≤ b) := Lib.hid (h4.elim .inl (fun h => .inr ⟨_, h, HC1.out.size⟩))
            clear h4 HXA HC1
            refine ord_sole rfl rfl (fun K hK => ?_); go_simp
            have hs2 : Sl .u64 V2 a' c' ys' := Rd.grew HN.out.s HC2.out HN.out.nt
            refine (snap_All _ _ ys' V2 hs2 hy2).mono ?_
            rintro e3 V3 ⟨wa2, wc2, rfl, ho, hb3⟩
            have HC3 := Lib.hid (HC2.out.up hb3)
            refine ⟨_, rfl, HC3.out, ?_⟩
            go_simp
            refine hK _ _ ?_; clear hK K hs2
            have HRO := Lib.hid (own_mono ho HC2.out.size); clear ho
            have HRA := Lib.hid (own_below HRA.out hb3)
            have HRB := Lib.hid (own_below HRB.out hb3)
            clear hb3 HC2
            refine ord_sole rfl rfl (fun K hK => ?_)
            have HXB := Lib.hid (World.ownsRow_lit (base := wx.heap.size) (e := 22) (size := 1) V3 #[.slice wa2 ys'.length wc2] 1 HC3.out.size (by decide) rfl)
            obtain ⟨V4, hV4⟩ : ∃ V4 : World, V4 = V3.alloc (.cells #[.slice wa2 ys'.length wc2] 22) := ⟨_, rfl⟩
            obtain ⟨g2, hg2⟩ : ∃ g2, g2 = V3.heap.size := ⟨_, rfl⟩
            have u4 : RowKit.Below V3.heap.size V3 V4 := hV4 ▸ (RowKit.Below.refl _ _).alloc (Nat.le_refl _) _
            have HC4 := Lib.hid (HC3.out.up u4)
            go_simp
            rw [← hV4, ← hg2] at HXB ⊢
            refine ⟨HC4.out, ?_⟩
            refine hK _ _ ?_; clear hK K
            have HRA := Lib.hid (own_below HRA.out u4)
            have HRB := Lib.hid (own_below HRB.out u4)
            have HRO := Lib.hid (own_below HRO.out u4)
            clear u4 hV4 hg2 HC3
            refine ord_sole rfl rfl (fun K hK => ?_)
            obtain ⟨D2, d2, V5, hrun, h2, h3, h4⟩ := run_app_own (P := Try.prog) V4 w.heap.size 30 30 22 (.slice none 0 0) 1 24 Try.underlying30 Try.infoSl rfl (by decide) (.slice (some ⟨bd, 0, none⟩) L.length d) L.length _ HRB.out _ 1 1 _ (own_rd HXB.out) (by simp [Value.oneCell']) (by omega) (by omega) (by have := HC4.out.size; omega)
            have hown : ∀ k, (Value.slice (some ⟨bd, 0, none⟩) L.length d).ownBlock = some k → T k := fun k hk => by rw [HTD.out]; exact .inr hk
            have HC5 := Lib.hid (HC4.out.grown h3 (fun k hk => .inl (hown k hk)))
            refine mix_app rfl rfl rfl hrun HC5.out ?_
            go_simp
            refine hK _ _ ?_; clear hK K hrun hown
            have HRA := Lib.hid (own_other HRA.out HRB.out h3 (by decide))
            have HRO := Lib.hid (own_other HRO.out HRB.out h3 (by decide))
            have HRB := Lib.hid h2; clear h2 h3
            have HLB : Hid ((Value.slice D2 (L.length + 1) d2).ownBlock = (Value.slice (some ⟨bd, 0, none⟩) L.length d).ownBlock ∨ ∃ b, (Value.slice D2 (L.length + 1) d2).ownBlock = some b ∧ wx.heap.size ≤ b) := Lib.hid (h4.elim .inl (fun h => .inr ⟨_, h, HC4.out.size⟩))
            clear h4 HXB HC4
            refine ord_still rfl rfl (fun K hK => ?_); apply Exists.intro; refine ⟨fun w' hw' => ?_, ?_⟩; (have z0 := HX.out w' hw'; go_simp; first | done | exact ⟨rfl, rfl⟩ | exact rfl); (go_simp; refine hK _ ?_; clear hK K)
            refine ord_still rfl rfl (fun K hK => ?_); apply Exists.intro; refine ⟨fun w' hw' => ?_, ?_⟩; (have z0 := HX.out w' hw'; go_simp; first | done | exact ⟨rfl, rfl⟩ | exact rfl); (go_simp; refine hK _ ?_; clear hK K)
            refine ord_nil ?_
            intro hC9
            go_wp2_with fail
            go_meet
            exact ⟨A2, c2, D2, d2, wa2, wc2, rfl, rfl, Lib.hid ⟨by rw [← HTD.out]; exact HC5.out, HRA.out, HLA.out, HRB.out, HLB.out, HRO.out⟩⟩
          case rest =>
            obtain ⟨A2, c2, D2, d2, wa2, wc2, rfl, rfl, HR⟩ := hcut
            obtain ⟨wy, hwy⟩ : ∃ wy : World, wy = wc := ⟨_, rfl⟩
            subst hwy
            have hgr : Grew wx wy T := by rw [HTD.out]; exact HR.out.gr
            have HS' := Lib.hid (HST2.out.step HN.out.s HN.out.nd (by rw [← HTD.out]; exact HN.out.nt) HN.out.le HR.out)
            have hkn := HN.out.bn.grew hgr hnT
            have hka := HN.out.ba.grew hgr hnA
            have hsy : Sl .u64 wy a' c' ys' := Rd.grew HN.out.s hgr HN.out.nt
            have HBy := Lib.hid (hgr.below (below_step HB.out HB.out.size HN.out.b) (fun k _ hk => (HT.out k hk).1) (by omega))
            have hix := HN.out.ix
            have hwys := HBy.out.size
            clear HR HST2 HN hgr HTD HEN HT hnT hnA
            have zn := hkn.lt
            have za := hka.lt
            have qn := hkn.cell 0
            simp only [List.getElem?_toArray, List.getElem?_cons_zero] at qn
            have HKN := Lib.hid hkn; clear hkn
            have HKA := Lib.hid hka; clear hka
            have HSY := Lib.hid hsy; clear hsy
            have HIX := Lib.hid hix; clear hix
            go_wp2_with fail
            refine (snap_All _ _ ys' _ HSY.out hy2).mono ?_
            rintro e5 w5 ⟨a5, c5, rfl, ho5, hb5⟩
            clear ho5
            have HB5 := Lib.hid hb5; clear hb5
            have hz5 := HB5.out.size
            have qn5 := (HKN.out.of_below HB5.out).cell 0
            simp only [List.getElem?_toArray, List.getElem?_cons_zero] at qn5
            clear qn
            go_wp2_with fail
            refine (snap_All _ _ ys' _ (HSY.out.below HB5.out) hy2).mono ?_
            rintro e6 w6 ⟨a6, c6, rfl, ho6, hb6⟩
            have HB6 := Lib.hid (below_step HB5.out HB5.out.size hb6); clear hb6
            have HO6 := Lib.hid ho6; clear ho6
            clear qn5
            go_upto_if 70 with fail
            go_cut [12] from 68 to 75 (fun v12 wz => Hid (RowKit.Below wy.heap.size wy wz))
            case first =>
              by_cases h0 : 0 < ys'.length
              · obtain ⟨g6, cur, rfl, hg6, hk6, _, _, _, hc6⟩ := own_at HO6.out h0
                have q6 := hk6.cell 0
                have hc0 := hc6 0 (by omega)
                have hf6 := hk6.frozen 0
                rw [hc0, nums_get h0] at q6
                clear hc6 hc0
                have hz6 := hk6.lt
                have h0' : (0 : Int) < (ys'.length : Int) := by omega
                go_wp2_with fail
                go_meet
                exact Lib.hid (HB6.out.setCell (by simp; omega) _)
              · have h0' : ¬ (0 : Int) < (ys'.length : Int) := by omega
                go_wp2_with fail
                go_meet
                exact HB6
            case rest =>
              clear HB5 HB6 HO6
              have hHB := hcut; clear hcut
              have HX : Hid (∀ w', RowKit.Below wc.heap.size wc w' → w'.cell? ⟨w3.heap.size, 0, none⟩ = some (.slice a' ys'.length c') ∧ w'.cell? ⟨wr.heap.size, 0, none⟩ = some (.int .u64 an) ∧ w'.cell? ⟨wr.heap.size, 1, none⟩ = some (.bool ao)) := Lib.hid fun w' hw' =>
                have hh := below_step hHB.out hHB.out.size hw'
                ⟨by rw [(HKN.out.of_below hh).cell]; rfl, by rw [(HKA.out.of_below hh).cell]; rfl, by rw [(HKA.out.of_below hh).cell]; rfl⟩
              have HS9 := Lib.hid (HSY.out.below hHB.out)
              go_upto_region 19 with fail
              refine wp_region_mix (fun w' => RowKit.Below wc.heap.size wc w') [(0, true), (1, true), (2, true), (5, true), (6, true), (3, false), (4, true), (7, true)] (by kernel_rfl) (by kernel_rfl) (RowKit.Below.refl _ _).drew ?_
              refine ord_still rfl rfl (fun K hK => ?_); apply Exists.intro; refine ⟨fun w' hw' => ?_, ?_⟩; (obtain ⟨z0, z1, z2⟩ := HX.out w' hw'; go_simp; first | done | exact ⟨rfl, rfl⟩ | exact rfl); (go_simp; refine hK _ ?_; clear hK K)
              refine ord_still rfl rfl (fun K hK => ?_); apply Exists.intro; refine ⟨fun w' hw' => ?_, ?_⟩; (obtain ⟨z0, z1, z2⟩ := HX.out w' hw'; go_simp; first | done | exact ⟨rfl, rfl⟩ | exact rfl); (go_simp; refine hK _ ?_; clear hK K)
              refine ord_still rfl rfl (fun K hK => ?_); apply Exists.intro; refine ⟨fun w' hw' => ?_, ?_⟩; (obtain ⟨z0, z1, z2⟩ := HX.out w' hw'; go_simp; first | done | exact ⟨rfl, rfl⟩ | exact rfl); (go_simp; refine hK _ ?_; clear hK K)
              refine ord_still rfl rfl (fun K hK => ?_); apply Exists.intro; refine ⟨fun w' hw' => ?_, ?_⟩; (obtain ⟨z0, z1, z2⟩ := HX.out w' hw'; go_simp; first | done | exact ⟨rfl, rfl⟩ | exact rfl); (go_simp; refine hK _ ?_; clear hK K)
              refine ord_still rfl rfl (fun K hK => ?_); apply Exists.intro; refine ⟨fun w' hw' => ?_, ?_⟩; (obtain ⟨z0, z1, z2⟩ := HX.out w' hw'; go_simp; first | done | exact ⟨rfl, rfl⟩ | exact rfl); (go_simp; refine hK _ ?_; clear hK K)
              refine ord_sole rfl rfl (fun K hK => ?_); go_simp
              refine (snap_Index a' c' ys' an _ (HS9.out.below (RowKit.Below.refl _ _).drew) hy2).mono ?_
              rintro e9 w9 ⟨rfl, hb9⟩
              have HB9 := Lib.hid (below_step ((RowKit.Below.refl wc.heap.size wc).drew) (Nat.le_refl _) hb9); clear hb9
              refine ⟨_, rfl, HB9.out, ?_⟩
              generalize idxI ys' an = ii at *
              go_simp
              refine hK _ _ ?_; clear hK K
              refine ord_still rfl rfl (fun K hK => ?_); apply Exists.intro; refine ⟨fun w' hw' => ?_, ?_⟩; (obtain ⟨z0, z1, z2⟩ := HX.out w' hw'; go_simp; first | done | exact ⟨rfl, rfl⟩ | exact rfl); (go_simp; refine hK _ ?_; clear hK K)
              refine ord_still rfl rfl (fun K hK => ?_); apply Exists.intro; refine ⟨fun w' hw' => ?_, ?_⟩; (obtain ⟨z0, z1, z2⟩ := HX.out w' hw'; go_simp; first | done | exact ⟨rfl, rfl⟩ | exact rfl); (go_simp; refine hK _ ?_; clear hK K)
              refine ord_nil ?_
              intro hC9
              have hii : (decide (ii < 0)) = ao := by have := HIX.out; revert this; cases ao <;> cases decide (ii < 0) <;> simp
              rw [hii]
              have HEl : Hid ((L ++ [(⟨a', c', wa2, wc2, ys'⟩ : En)]).length = L.length + 1) := Lib.hid (by simp)
              have hBF := below_step hHB.out hHB.out.size HB9.out
              have HBF := Lib.hid (below_step HBy.out HBy.out.size hBF)
              have HSF := Lib.hid (HS'.out.below hBF)
              clear hii HIX hBF HS' HBy HB9 HKN HKA HSY HS9 HX
              cases ao
              all_goals (
                go_wp2_with fail
                go_roundg (m + 1 - (k + 1))
                case measure => omega
                case rel => exact ⟨k + 1, L ++ [⟨a', c', wa2, wc2, ys'⟩], A2, c2, D2, d2, by omega, rfl, by go_num, Lib.hid (by rw [HEl.out, HLN.out]), by rw [HEl.out], by rw [HEl.out], HSF, HBF⟩)
      · have hltI : ¬ (k : Int) < (m : Int) := by omega
        clear HZC HZW
        go_wp2_with fail
        obtain ⟨ws, hws⟩ : ∃ ws : World, ws = wr := ⟨_, rfl⟩
        subst hws
        go_loopg [87] (L.length + 1) (fun gh iv wl => ∃ (i : Nat), i ≤ L.length ∧ gh = L.length + 1 - i ∧ iv = .int .i64 i ∧ Hid (RowKit.Below ws.heap.size ws wl))
        case atStart => exact ⟨0, by omega, by omega, rfl, Lib.hid (RowKit.Below.refl _ _)⟩
        case round =>
          obtain ⟨i, hi, rfl, rfl, HBL⟩ := hrel
          by_cases hil : i < L.length
          · obtain ⟨ba, bd, rfl, rfl, hba1, hbd1, hba, hbd, hca, hcd⟩ := (HST.out.below HBL.out).at_ hil
            obtain ⟨hG, hGl⟩ := (HST.out.below HBL.out).get hil
            have hL61 : L.length ≤ 61 := by have := HLN.out; omega
            have hilI : (i : Int) < (L.length : Int) := by omega
            generalize L.getD i default = E at *
            obtain ⟨sa, sc, wa, wc, ys⟩ := E
            unfold En.cs at hca
            unfold En.cw at hcd
            dsimp only at hca hcd hGl
            have HG := Lib.hid (show Sl .u64 wr sa sc ys from hG.s)
            have HGT := Lib.hid (show Sl .u64 wr wa wc ys from hG.t)
            have HND := Lib.hid (show ys.Nodup from hG.nd)
            clear hG
            have hyl2 : ys.length ≤ 1000000 := by omega
            have hyl3 : ys.length ≤ 100000 := by omega
            have HCD := Lib.hid hcd; clear hcd
            go_wp2_with fail
            obtain ⟨wb, hwb⟩ : ∃ wb : World, wb = wr.alloc (.cells #[.slice sa ys.length sc] 26) := ⟨_, rfl⟩
            rw [← hwb]
            have hka : Blk wb wr.heap.size 26 #[.slice sa ys.length sc] := hwb ▸ Blk.new _ _ _
            have HBB := Lib.hid (show RowKit.Below wr.heap.size wr wb from hwb ▸ (RowKit.Below.refl _ _).alloc (Nat.le_refl _) _)
            clear hwb
            have HKA := Lib.hid hka; clear hka
            refine (snap_All _ _ ys wb (HG.out.below HBB.out) hyl2).mono ?_
            rintro e3 w3 ⟨a3, c3, rfl, ho3, hb3⟩
            have HO3 := Lib.hid ho3; clear ho3
            have HB3 := Lib.hid hb3; clear hb3
            go_wp2_with fail
            refine (sort_own wb.heap.size a3 c3 ys w3 hyl3 HB3.out.size HO3.out).mono ?_
            rintro e4 w4 ⟨rfl, ts, hp, hs4, hb4⟩
            have HP := Lib.hid hp; clear hp
            have HS4 := Lib.hid hs4; clear hs4
            have HB4 := Lib.hid (show RowKit.Below wb.heap.size wb w4 from HB3.out.trans hb4); clear hb4 HB3 HO3
            have htl : ts.length = ys.length := HP.out.length_eq
            have HTN := Lib.hid (show ts.Nodup from HP.out.nodup_iff.2 HND.out)
            have HGL := Lib.hid hGl; clear hGl
            go_upto_region 27 with fail
            have HW4 := Lib.hid (below_step HBB.out HBB.out.size HB4.out)
            have HX : Hid (∀ w', RowKit.Below w4.heap.size w4 w' → w'.cell? ⟨wr.heap.size, 0, none⟩ = some (.slice sa ys.length sc) ∧ w'.cell? ⟨bd, i, none⟩ = some (.slice wa ys.length wc)) := Lib.hid fun w' hw' =>
              have hh := below_step HB4.out HB4.out.size hw'
              ⟨by rw [(HKA.out.of_below hh).cell]; rfl, ((below_step HW4.out HW4.out.size hw').cell (p := ⟨bd, i, none⟩) hbd).trans HCD.out⟩
            refine wp_region_mix (fun w' => RowKit.Below w4.heap.size w4 w') [(0, true), (2, true), (3, true), (4, true), (5, true), (1, false), (6, false), (7, true), (8, true), (9, true), (12, true), (10, false), (11, true), (13, false), (14, true), (15, true)] (by kernel_rfl) (by kernel_rfl) (RowKit.Below.refl _ _).drew ?_
            refine ord_still rfl rfl (fun K hK => ?_); apply Exists.intro; refine ⟨fun w' hw' => ?_, ?_⟩; (obtain ⟨z0, z1⟩ := HX.out w' hw'; go_simp; first | done | exact ⟨rfl, rfl⟩ | exact rfl); (go_simp; refine hK _ ?_; clear hK K)
            refine ord_still rfl rfl (fun K hK => ?_); apply Exists.intro; refine ⟨fun w' hw' => ?_, ?_⟩; (obtain ⟨z0, z1⟩ := HX.out w' hw'; go_simp; first | done | exact ⟨rfl, rfl⟩ | exact rfl); (go_simp; refine hK _ ?_; clear hK K)
            refine ord_still rfl rfl (fun K hK => ?_); apply Exists.intro; refine ⟨fun w' hw' => ?_, ?_⟩; (obtain ⟨z0, z1⟩ := HX.out w' hw'; go_simp; first | done | exact ⟨rfl, rfl⟩ | exact rfl); (go_simp; refine hK _ ?_; clear hK K)
            refine ord_still rfl rfl (fun K hK => ?_); apply Exists.intro; refine ⟨fun w' hw' => ?_, ?_⟩; (obtain ⟨z0, z1⟩ := HX.out w' hw'; go_simp; first | done | exact ⟨rfl, rfl⟩ | exact rfl); (go_simp; refine hK _ ?_; clear hK K)
            refine ord_still rfl rfl (fun K hK => ?_); apply Exists.intro; refine ⟨fun w' hw' => ?_, ?_⟩; (obtain ⟨z0, z1⟩ := HX.out w' hw'; go_simp; first | done | exact ⟨rfl, rfl⟩ | exact rfl); (go_simp; refine hK _ ?_; clear hK K)
            refine ord_sole rfl rfl (fun K hK => ?_); go_simp
            have hz := (RowKit.Below.refl w4.heap.size w4).drew
            refine (snap_All _ _ ys _ ((HG.out.below HW4.out).below hz) hyl2).mono ?_
            rintro e6 w6 ⟨a6, c6, rfl, ho6, hb6⟩
            have HC6 := Lib.hid (below_step hz hz.size hb6)
            refine ⟨_, rfl, HC6.out, ?_⟩
            go_simp
            refine hK _ _ ?_; clear hK K hb6
            have HO6 := Lib.hid (own_rd ho6); clear ho6
            refine ord_sole rfl rfl (fun K hK => ?_); go_simp
            refine (slices_Equal_u64 _ _ _ _ ys ys w6 HO6.out ((HGT.out.below HW4.out).below HC6.out) (by omega) (by omega)).mono ?_
            rintro e7 w7 ⟨rfl, q7, rfl⟩
            have HC7 := Lib.hid (below_drewN HC6.out q7)
            refine ⟨_, rfl, HC7.out, ?_⟩
            obtain ⟨w7, hw7⟩ : ∃ w7 : World, w7 = w6.drewN q7 := ⟨_, rfl⟩
            rw [← hw7] at HC7 ⊢
            clear hw7 HO6 HC6
            simp only [beq_self_eq_true]
            go_simp
            refine hK _ _ ?_; clear hK K
            refine ord_still rfl rfl (fun K hK => ?_); apply Exists.intro; refine ⟨fun w' hw' => ?_, ?_⟩; (obtain ⟨z0, z1⟩ := HX.out w' hw'; go_simp; first | done | exact ⟨rfl, rfl⟩ | exact rfl); (go_simp; refine hK _ ?_; clear hK K)
            refine ord_still rfl rfl (fun K hK => ?_); apply Exists.intro; refine ⟨fun w' hw' => ?_, ?_⟩; (obtain ⟨z0, z1⟩ := HX.out w' hw'; go_simp; first | done | exact ⟨rfl, rfl⟩ | exact rfl); (go_simp; refine hK _ ?_; clear hK K)
            refine ord_still rfl rfl (fun K hK => ?_); apply Exists.intro; refine ⟨fun w' hw' => ?_, ?_⟩; (obtain ⟨z0, z1⟩ := HX.out w' hw'; go_simp; first | done | exact ⟨rfl, rfl⟩ | exact rfl); (go_simp; refine hK _ ?_; clear hK K)
            refine ord_still rfl rfl (fun K hK => ?_); apply Exists.intro; refine ⟨fun w' hw' => ?_, ?_⟩; (obtain ⟨z0, z1⟩ := HX.out w' hw'; go_simp; first | done | exact ⟨rfl, rfl⟩ | exact rfl); (go_simp; refine hK _ ?_; clear hK K)
            refine ord_sole rfl rfl (fun K hK => ?_); go_simp
            have hcmp := compact_ a3 c3 ts w7 (HS4.out.below HC7.out) (by omega) HTN.out
            rw [htl] at hcmp
            refine hcmp.mono ?_
            clear hcmp
            rintro e8 w8 ⟨rfl, q8, rfl⟩
            have HC8 := Lib.hid (below_drewN HC7.out q8)
            refine ⟨_, rfl, HC8.out, ?_⟩
            obtain ⟨w8, hw8⟩ : ∃ w8 : World, w8 = w7.drewN q8 := ⟨_, rfl⟩
            rw [← hw8] at HC8 ⊢
            clear hw8 HC7
            go_simp
            refine hK _ _ ?_; clear hK K
            refine ord_still rfl rfl (fun K hK => ?_); apply Exists.intro; refine ⟨fun w' hw' => ?_, ?_⟩; (obtain ⟨z0, z1⟩ := HX.out w' hw'; go_simp; first | done | exact ⟨rfl, rfl⟩ | exact rfl); (go_simp; refine hK _ ?_; clear hK K)
            refine ord_sole rfl rfl (fun K hK => ?_); go_simp
            refine (snap_Len sa sc ys w8).mono ?_
            rintro e9 w9 ⟨rfl, hb9⟩
            have HC9 := Lib.hid (below_step HC8.out HC8.out.size hb9); clear hb9
            refine ⟨_, rfl, HC9.out, ?_⟩
            go_simp
            refine hK _ _ ?_; clear hK K HC8
            refine ord_still rfl rfl (fun K hK => ?_); apply Exists.intro; refine ⟨fun w' hw' => ?_, ?_⟩; (obtain ⟨z0, z1⟩ := HX.out w' hw'; go_simp; first | done | exact ⟨rfl, rfl⟩ | exact rfl); (go_simp; refine hK _ ?_; clear hK K)
            refine ord_still rfl rfl (fun K hK => ?_); apply Exists.intro; refine ⟨fun w' hw' => ?_, ?_⟩; (obtain ⟨z0, z1⟩ := HX.out w' hw'; go_simp; first | done | exact ⟨rfl, rfl⟩ | exact rfl); (go_simp; refine hK _ ?_; clear hK K)
            refine ord_nil ?_
            intro hC9
            have HBF := Lib.hid (below_step HBL.out HBL.out.size (below_step HW4.out HW4.out.size HC9.out))
            clear HX HW4 HC9 hC9 HKA HBB HB4 HS4 HTN HG HGT HCD HND HP
            go_wp2_with fail
            go_roundg (L.length + 1 - (i + 1))
            case measure => omega
            case rel => exact ⟨i + 1, by omega, rfl, by go_num, HBF⟩
          · have hilI : ¬ (i : Int) < (L.length : Int) := by omega
            go_wp2_with fail
            (try simp only [Exit.inBlock, Exit.then])
            refine bodyPost_ret (v := .bool true) (by simp [results, Try.results3, go_sem]) rfl ?_
            exact ⟨rfl, below_step HB.out HB.out.size HBL.out⟩
end Go.Proofs.Ythjefbfhpdbcjaa
