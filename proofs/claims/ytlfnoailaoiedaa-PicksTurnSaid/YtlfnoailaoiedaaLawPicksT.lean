/- The walk of layer 8's law PicksTurn. -/
import Derived.Test.YtlfnoailaoiedaaRef08
import Derived.Test.YtlfnoailaoiedaaOpen
import Derived.Deep.AppendLies
import Derived.Deep.RegionLaw
namespace Go.Proofs.Ytlfnoailaoiedaa
open Go.RowKit
set_option linter.unusedVariables false
set_option linter.unusedSimpArgs false

theorem Sl.farN {k : IntKind} {w : World} {a : Option Addr} {c : Nat} {xs : List Int} (h : Sl k w a c xs) {p : Addr} (hp : ∀ q, a = some q → 0 < xs.length → q.block ≠ p.block) (u : Value) : Sl k (w.setCell p u) a c xs := by
  by_cases h0 : 0 < xs.length
  · exact Rd.far h (fun q hq => hp q hq h0) u
  · exact ⟨h.1, h.2.1, h.2.2.1, fun h1 => absurd h1 h0⟩
theorem Pk.farN {w : World} {g : Nat} {a : Option Addr} {c : Nat} {xs : List Int} {t : Int} (h : Pk w g a c xs t) {p : Addr} (hg : g ≠ p.block) (hp : ∀ q, a = some q → 0 < xs.length → q.block ≠ p.block) (u : Value) : Pk (w.setCell p u) g a c xs t :=
  ⟨h.blk.far hg u, h.sl.farN hp u, h.t0, h.t1, h.in_, h.len⟩
theorem Sl.grownN {k : IntKind} {w w' : World} {a : Option Addr} {c : Nat} {xs : List Int} {r : Option Nat} (h : Sl k w a c xs) (hg : w.grownBy w' r) (hne : ∀ q, a = some q → 0 < xs.length → some q.block ≠ r) : Sl k w' a c xs := by
  refine ⟨h.1, h.2.1, h.2.2.1, fun h0 => ?_⟩
  obtain ⟨b, off, ha, hb, hc⟩ := h.2.2.2 h0
  exact ⟨b, off, ha, Nat.lt_of_lt_of_le hb hg.size, fun i v hi => (World.cell?_of_block (w := w) (a := ⟨b, off + i, none⟩) (hg.block b hb (hne _ ha h0))).trans (hc i v hi)⟩
set_option maxHeartbeats 400000 in
theorem picks_Some_neg (g : Nat) (k : Int) (hk : k < 0) (w : World) :
    Calls Try.prog 67 #[.pointer (some ⟨g, 0, none⟩), .int .i64 5, .int .i64 k] w fun e w' => e = .returned (.slice none 0 0) ∧ w = w' := by
  have hm : min k 10000 = k := by omega
  have hk' : ¬ 0 < k := by omega
  go_enter Try.func67, Try.ntmps67
  go_wp2
  refine wp_loop_rounds 1 ?_
  rw [rounds_succ]
  go_wp2
  go_ret
  exact ⟨rfl, rfl⟩
theorem drop_in {xs : List Int} (h : ∀ x ∈ xs, I64 x) (i : Nat) : ∀ x ∈ xs.drop i, I64 x := fun x hx => h x (List.mem_of_mem_drop hx)

set_option maxRecDepth 100000 in
set_option maxHeartbeats 4000000 in
theorem law_PicksTurn (a : Option Addr) (len cap : Nat) (zs : List Int) (a2 : Option Addr) (len2 cap2 : Nat) (ns : List Int) (k : Int) (w : World) (h1 : Nums .i64 w a len cap zs) (h2 : Nums .i64 w a2 len2 cap2 ns) (hk0 : -128 ≤ k) (hk1 : k < 128) :
    Calls Try.prog 12 #[.slice a len cap, .slice a2 len2 cap2, .int .i8 k] w fun e w' => e = .returned (.bool true) ∧ Below w.heap.size w w' := by
  obtain ⟨rfl, hn1, hwf1, hs1⟩ := h1
  obtain ⟨rfl, hn2, hwf2, hs2⟩ := h2
  by_cases hbig : 200 < zs.length
  · go_enter Try.func12, Try.ntmps12
    go_wp2_with (first | (go_at_call 64; refine (law08_awake _).mono ?_; rintro e w' ⟨rfl, hb⟩))
    go_ret
    exact ⟨rfl, hb⟩
  by_cases hbig2 : 200 < ns.length
  · go_enter Try.func12, Try.ntmps12
    go_wp2_with (first | (go_at_call 64; refine (law08_awake _).mono ?_; rintro e w' ⟨rfl, hb⟩))
    go_ret
    exact ⟨rfl, hb⟩
  have hI1 : ∀ x ∈ zs, I64 x := fun x hx => bounds_i64 (hwf1 x hx)
  have HWF2 := Lib.hid hwf2; clear hwf2 hwf1
  have HS1 := Lib.hid hs1; clear hs1
  have HS2 := Lib.hid hs2; clear hs2
  have HI1 := Lib.hid hI1; clear hI1
  go_enter Try.func12, Try.ntmps12
  go_wp2_with (first | (go_at_call 64; refine (law08_awake _).mono ?_; rintro e w0 ⟨rfl, hb0⟩) | (go_at_call 65; refine (picks_New a cap zs _ (HS1.out.below hb0) HI1.out (by omega)).mono ?_; rintro e w2 ⟨g, an, cn, rfl, pn, hgn, bn⟩; have PN := Lib.hid pn; clear pn))
  have hB2 := below_step hb0 hb0.size bn
  have hgw : w.heap.size ≤ g := by have := hb0.size; omega
  have hgl := PN.out.blk.lt
  have hdw : w.heap.size ≤ w2.heap.size := hB2.size
  go_loopg [35] ns.length (fun gh iv wr => ∃ (i : Nat) (a' : Option Addr) (c' : Nat) (ad : Option Addr) (cd : Nat) (xs : List Int) (t : Int), gh = ns.length - i ∧ i ≤ ns.length ∧ iv = .int .i64 i ∧ t ≤ i ∧ xs.length ≤ 200 ∧ Pk wr g a' c' xs t ∧ Blk wr w2.heap.size 118 #[.slice ad xs.length cd, .int .i64 t] ∧ Sl .i64 wr ad cd xs ∧
    (∀ q, a' = some q → 0 < xs.length → q.block < w2.heap.size) ∧ (∀ q, ad = some q → 0 < xs.length → q.block < w.heap.size) ∧ Below w.heap.size w wr)
  case atStart =>
    have hal := (Below.refl w2.heap.size w2).alloc (Nat.le_refl _) (.cells #[.slice a zs.length cap, .int .i64 0] 118)
    refine ⟨0, an, cn, a, cap, zs, 0, by omega, by omega, rfl, by omega, by omega, PN.out.of_below hal, Blk.new _ _ _, (HS1.out.below hB2).below hal, fun q hq h0 => ?_, fun q hq h0 => ?_, hB2.alloc hB2.size _⟩
    · obtain ⟨b, off, hb, hl, -⟩ := PN.out.sl.at_ h0
      rw [hb] at hq; cases hq; exact hl
    · obtain ⟨b, off, hb, hl, -⟩ := HS1.out.at_ h0
      rw [hb] at hq; cases hq; exact hl
  case round =>
    obtain ⟨i, a', c', ad, cd, xs, t, rfl, hi, rfl, hti, hxl, hP, hD, hSd, hqa, hqd, hB⟩ := hrel
    clear hb0 bn hB2 PN
    have HP := Lib.hid hP; clear hP
    have HD := Lib.hid hD; clear hD
    have HSd := Lib.hid hSd; clear hSd
    have HQA := Lib.hid hqa; clear hqa
    have HQD := Lib.hid hqd; clear hqd
    have HB := Lib.hid hB; clear hB
    have ht0 := HP.out.t0
    by_cases hlt : i < ns.length
    · obtain ⟨b, off, rfl, hbs, hc⟩ := HS2.out.at_ (by omega)
      have c0 := (HB.out.cell (p := ⟨b, off + i, none⟩) hbs).trans (hc i hlt)
      clear hc
      have hnr := bounds_i64 (HWF2.out (ns.getD i 0) (by rw [List.getD_eq_getElem?_getD, List.getElem?_eq_getElem hlt]; exact List.getElem_mem hlt))
      generalize ns.getD i 0 = n at *
      by_cases hn : 1 ≤ n
      · go_wp2_with fail
        refine (picks_Clone g a' c' xs t _ HP.out).mono ?_
        rintro e w3 ⟨gc, ac, cc, rfl, pc, hgc, b3⟩
        have hB3 := Lib.hid (below_step HB.out HB.out.size b3)
        have P3 := Lib.hid (HP.out.of_below b3)
        have D3 := Lib.hid (HD.out.of_below b3)
        have S3 := Lib.hid (HSd.out.below b3)
        have hgl3 := HP.out.blk.lt
        have hdl3 := HD.out.lt
        have hwl3 := HB.out.size
        have PC := Lib.hid pc; clear pc
        go_wp2_with fail
        refine (picks_Next gc ac cc xs t 3 _ PC.out (by omega) (by omega) (by omega)).mono ?_
        rintro e w4 ⟨a4, c4, rfl, p4, g4, -⟩
        clear p4
        have S4 := Lib.hid (S3.out.keptI PC.out.blk g4)
        have P4' := Lib.hid (⟨(g4.block g P3.out.blk.lt (fun e => by have := Option.some.inj e; omega)).trans P3.out.blk, P3.out.sl.keptI PC.out.blk g4, P3.out.t0, P3.out.t1, P3.out.in_, P3.out.len⟩ : Pk w4 g a' c' xs t)
        have d4 : Blk w4 w2.heap.size 118 #[.slice ad xs.length cd, .int .i64 t] := (g4.block w2.heap.size D3.out.lt (fun e => by have := Option.some.inj e; omega)).trans D3.out
        have D4 := Lib.hid d4; clear d4
        have hB4 := Lib.hid (hB3.out.grown g4 hB3.out.size (fun j hj => by cases hj; omega))
        clear PC P3 D3 S3 hB3 HP HD HSd HB
        go_wp2_with fail
        refine (picks_Next g a' c' xs t n w4 P4'.out hn hnr.2 (by omega)).mono ?_
        rintro e w5 ⟨a5, c5, rfl, p5, g5, hq5⟩
        have S5 := Lib.hid (S4.out.keptI P4'.out.blk g5)
        have d5 : Blk w5 w2.heap.size 118 #[.slice ad xs.length cd, .int .i64 t] := (g5.block w2.heap.size D4.out.lt (fun e => by have := Option.some.inj e; omega)).trans D4.out
        have D5 := Lib.hid d5; clear d5
        have hB5 := Lib.hid (hB4.out.grown g5 hB4.out.size (fun j hj => by cases hj; exact hgw))
        have HQ5 := Lib.hid hq5; clear hq5
        have P5 := Lib.hid p5; clear p5
        have hin4 := P4'.out.in_
        have hd0 := D5.out.cell 0
        have hd1 := D5.out.cell 1
        have hdl5 := D5.out.lt
        simp only [List.getElem?_toArray, List.getElem?_cons_zero, List.getElem?_cons_succ] at hd0 hd1
        have hnx := ref08_Next ad cd xs t n w5 S5.out hin4 (by omega) ht0 (by omega) hn hnr.2
        have HNX := Lib.hid hnx; clear hnx hin4
        have hnb : decide (1 ≤ n) = true := decide_eq_true hn
        have htt2 : pkT xs t 1 ≤ t + 1 := by unfold pkT; omega
        have hyl : (xs.drop 1).length ≤ 200 := by rw [List.length_drop]; omega
        have hyx : 0 < (xs.drop 1).length → 0 < xs.length := by rw [List.length_drop]; omega
        generalize pkV xs t n 0 = V at *
        generalize pkT xs t 1 = t2 at *
        generalize xs.drop 1 = ys at *
        have HYX := Lib.hid hyx; clear hyx
        go_wp2_with (go_at_call 71; refine HNX.out.mono ?_; rintro e w6 ⟨a6, c6, rfl, s6, b6, hq6⟩)
        have hal := (Below.refl w6.heap.size w6).alloc (Nat.le_refl _) (.cells #[.slice a6 ys.length c6, .int .i64 t2] 118)
        have kn := Blk.new w6 118 #[.slice a6 ys.length c6, .int .i64 t2]
        have b56 : Below w5.heap.size w5 (w6.alloc (.cells #[.slice a6 ys.length c6, .int .i64 t2] 118)) := below_step b6 b6.size hal
        have hS6 := s6.below hal
        have hdl6 : w2.heap.size < w6.heap.size := by have := b6.size; omega
        generalize w6.alloc (.cells #[.slice a6 ys.length c6, .int .i64 t2] 118) = W5 at *
        generalize w6.heap.size = kb at *
        have P6 := P5.out.of_below b56
        have D6 := D5.out.of_below b56
        have hB6 := below_step hB5.out hB5.out.size b56
        have hleft := picks_Left g a5 c5 ys t2 W5.drew (P6.of_below (Below.refl _ _).drew)
        have HLEFT := Lib.hid hleft; clear hleft
        have e0 := kn.cell 0
        have e1 := kn.cell 1
        have el := kn.lt
        have f0 := D6.frozen 0
        have f1 := D6.frozen 1
        have fd0 := D6.cell 0
        have fd1 := D6.cell 1
        have fdl := D6.lt
        simp only [List.getElem?_toArray, List.getElem?_cons_zero, List.getElem?_cons_succ] at e0 e1 fd0 fd1
        have HP6 := Lib.hid P6; clear P6
        have HD6 := Lib.hid D6; clear D6
        have HS6 := Lib.hid hS6; clear hS6 s6
        have HB6 := Lib.hid hB6; clear hB6
        have HQ6 := Lib.hid hq6; clear hq6
        have HKN := Lib.hid kn; clear kn hd0 hd1 hal b6
        refine wp_region_mix (fun w' => w' = W5.drew) [(0, true), (1, true), (2, true), (3, true), (4, true), (6, true), (7, true), (8, true), (5, false), (9, true), (10, true)] (by kernel_rfl) (by kernel_rfl) (rfl) ?_
        refine ord_still rfl rfl (fun K hK => ?_); apply Exists.intro; refine ⟨fun w' hw' => ?_, ?_⟩; (obtain rfl := hw'; go_simp; first | done | exact ⟨rfl, rfl⟩ | exact rfl); (go_simp; refine hK _ ?_; clear hK K)
        refine ord_still rfl rfl (fun K hK => ?_); apply Exists.intro; refine ⟨fun w' hw' => ?_, ?_⟩; (obtain rfl := hw'; go_simp; first | done | exact ⟨rfl, rfl⟩ | exact rfl); (go_simp; refine hK _ ?_; clear hK K)
        refine ord_still rfl rfl (fun K hK => ?_); apply Exists.intro; refine ⟨fun w' hw' => ?_, ?_⟩; (obtain rfl := hw'; go_simp; first | done | exact ⟨rfl, rfl⟩ | exact rfl); (go_simp; refine hK _ ?_; clear hK K)
        refine ord_still rfl rfl (fun K hK => ?_); apply Exists.intro; refine ⟨fun w' hw' => ?_, ?_⟩; (obtain rfl := hw'; go_simp; first | done | exact ⟨rfl, rfl⟩ | exact rfl); (go_simp; refine hK _ ?_; clear hK K)
        refine ord_still rfl rfl (fun K hK => ?_); apply Exists.intro; refine ⟨fun w' hw' => ?_, ?_⟩; (obtain rfl := hw'; go_simp; first | done | exact ⟨rfl, rfl⟩ | exact rfl); (go_simp; refine hK _ ?_; clear hK K)
        refine ord_still rfl rfl (fun K hK => ?_); apply Exists.intro; refine ⟨fun w' hw' => ?_, ?_⟩; (obtain rfl := hw'; go_simp; first | done | exact ⟨rfl, rfl⟩ | exact rfl); (go_simp; refine hK _ ?_; clear hK K)
        refine ord_still rfl rfl (fun K hK => ?_); apply Exists.intro; refine ⟨fun w' hw' => ?_, ?_⟩; (obtain rfl := hw'; go_simp; first | done | exact ⟨rfl, rfl⟩ | exact rfl); (go_simp; refine hK _ ?_; clear hK K)
        refine ord_still rfl rfl (fun K hK => ?_); apply Exists.intro; refine ⟨fun w' hw' => ?_, ?_⟩; (obtain rfl := hw'; go_simp; first | done | exact ⟨rfl, rfl⟩ | exact rfl); (go_simp; refine hK _ ?_; clear hK K)
        refine ord_sole rfl rfl (fun K hK => ?_); go_simp
        refine (HLEFT.out).mono ?_
        rintro e wl ⟨rfl, rfl⟩
        refine ⟨_, rfl, rfl, ?_⟩
        go_simp
        refine hK _ _ ?_; clear hK K
        refine ord_still rfl rfl (fun K hK => ?_); apply Exists.intro; refine ⟨fun w' hw' => ?_, ?_⟩; (obtain rfl := hw'; go_simp; first | done | exact ⟨rfl, rfl⟩ | exact rfl); (go_simp; refine hK _ ?_; clear hK K)
        refine ord_still rfl rfl (fun K hK => ?_); apply Exists.intro; refine ⟨fun w' hw' => ?_, ?_⟩; (obtain rfl := hw'; go_simp; first | done | exact ⟨rfl, rfl⟩ | exact rfl); (go_simp; refine hK _ ?_; clear hK K)
        refine ord_nil ?_
        intro hCx
        go_wp2_with fail
        go_roundg (ns.length - (i + 1))
        case measure => omega
        case rel =>
          have q6 : ∀ q, a6 = some q → 0 < ys.length → q.block < w.heap.size := fun q hq h0 => by
            obtain ⟨q1, hq1, he⟩ := HQ6.out q hq
            have := HQD.out q1 hq1 (HYX.out h0); omega
          have q5 : ∀ q, a5 = some q → 0 < ys.length → q.block < w2.heap.size := fun q hq h0 => by
            obtain ⟨q1, hq1, he⟩ := HQ5.out q hq
            have := HQA.out q1 hq1 (HYX.out h0); omega
          have hq6' : ∀ q, a6 = some q → 0 < ys.length → q.block ≠ w2.heap.size := fun q hq h0 => by have := q6 q hq h0; omega
          have hq5' : ∀ q, a5 = some q → 0 < ys.length → q.block ≠ w2.heap.size := fun q hq h0 => by have := q5 q hq h0; omega
          have hgd : g ≠ w2.heap.size := by omega
          have hdr : ∀ x : World, Below x.heap.size x x.drew := fun x => (Below.refl _ _).drew
          refine ⟨i + 1, a5, c5, a6, c6, ys, t2, rfl, by omega, by go_num, by omega, by omega, ((HP6.out.farN (p := ⟨w2.heap.size, 0, none⟩) hgd hq5' _).farN (p := ⟨w2.heap.size, 1, none⟩) hgd hq5' _).of_below (hdr _), ((HD6.out.put 0 (.slice a6 ys.length c6)).put 1 (.int .i64 t2)).drew,
            Sl.below ((HS6.out.farN (p := ⟨w2.heap.size, 0, none⟩) hq6' _).farN (p := ⟨w2.heap.size, 1, none⟩) hq6' _) (hdr _), q5, q6, ((HB6.out.setCell hdw _).setCell hdw _).drew⟩
      · have hn0 : n < 1 := by omega
        have hnb : decide (1 ≤ n) = false := decide_eq_false hn
        go_wp2_with fail
        refine (picks_Clone g a' c' xs t _ HP.out).mono ?_
        rintro e w3 ⟨gc, ac, cc, rfl, pc, hgc, b3⟩
        have hB3 := Lib.hid (below_step HB.out HB.out.size b3)
        have P3 := Lib.hid (HP.out.of_below b3)
        have D3 := Lib.hid (HD.out.of_below b3)
        have S3 := Lib.hid (HSd.out.below b3)
        have hgl3 := HP.out.blk.lt
        have hdl3 := HD.out.lt
        have hwl3 := HB.out.size
        have PC := Lib.hid pc; clear pc
        go_wp2_with fail
        refine (picks_Next gc ac cc xs t 3 _ PC.out (by omega) (by omega) (by omega)).mono ?_
        rintro e w4 ⟨a4, c4, rfl, p4, g4, -⟩
        clear p4
        have S4 := Lib.hid (S3.out.keptI PC.out.blk g4)
        have P4' := Lib.hid (⟨(g4.block g P3.out.blk.lt (fun e => by have := Option.some.inj e; omega)).trans P3.out.blk, P3.out.sl.keptI PC.out.blk g4, P3.out.t0, P3.out.t1, P3.out.in_, P3.out.len⟩ : Pk w4 g a' c' xs t)
        have d4 : Blk w4 w2.heap.size 118 #[.slice ad xs.length cd, .int .i64 t] := (g4.block w2.heap.size D3.out.lt (fun e => by have := Option.some.inj e; omega)).trans D3.out
        have D4 := Lib.hid d4; clear d4
        have hB4 := Lib.hid (hB3.out.grown g4 hB3.out.size (fun j hj => by cases hj; omega))
        clear PC P3 D3 S3 hB3 HP HD HSd HB
        go_wp2_with fail
        refine (picks_Next_bad g n hn0 w4).mono ?_
        rintro e w5 ⟨rfl, rfl⟩
        go_wp2_with fail
        go_roundg (ns.length - (i + 1))
        case measure => omega
        case rel => exact ⟨i + 1, a', c', ad, cd, xs, t, rfl, by omega, by go_num, by omega, hxl, P4'.out, D4.out, S4.out, HQA.out, HQD.out, hB4.out⟩
    · obtain ⟨K, hK1, hK2⟩ : ∃ K : Nat, K ≤ 127 ∧ K = k.toNat := ⟨k.toNat, by omega, rfl⟩
      have ht200 : t ≤ 200 := by omega
      have hbase := HB.out.size
      have hgr := HP.out.blk.lt
      have hdr0 := HD.out.lt
      have hin := HP.out.in_
      have HIN := Lib.hid hin; clear hin
      have HPk := Lib.hid HP.out
      have HDk := Lib.hid HD.out
      have HSk := Lib.hid HSd.out
      have HBk := Lib.hid HB.out
      clear HP HD HSd HB
      obtain ⟨i0, hinf, hz0, hz1, hz2⟩ := info_parts Try.infoI
      have HINF := Lib.hid hinf; clear hinf
      have HZ0 := Lib.hid hz0; clear hz0
      have HZ1 := Lib.hid hz1; clear hz1
      have HZ2 := Lib.hid hz2; clear hz2
      go_wp2_with fail
      have hB0le : wr.heap.size ≤ wr.heap.size := Nat.le_refl _
      have hwB : w.heap.size ≤ wr.heap.size := HBk.out.size
      generalize hB0 : wr.heap.size = B0 at hB0le hwB hbase hgr hdr0 ⊢
      have hB0le : B0 ≤ wr.heap.size := by omega
      go_loopg [16, 78] K (fun gh v jv wx => ∃ (j : Nat) (A1 : Option Addr) (c1 : Nat) (ad' : Option Addr) (cd' : Nat), gh = K - j ∧ j ≤ K ∧ jv = .int .i64 j ∧ v = .slice A1 j c1 ∧ wx.ownsRow B0 3 1 (.slice A1 j c1) j (nums .i64 (pkL xs t 5 j)) ∧ Pk wx g a' c' xs t ∧ Blk wx w2.heap.size 118 #[.slice ad' (xs.drop j).length cd', .int .i64 (pkT xs t j)] ∧ Sl .i64 wx ad' cd' (xs.drop j) ∧
        (∀ q, ad' = some q → 0 < (xs.drop j).length → q.block < w.heap.size) ∧ Below w.heap.size w wx ∧ B0 ≤ wx.heap.size)
      case atStart => exact ⟨0, none, 0, ad, cd, by omega, by omega, rfl, rfl, World.ownsRow_nil _ _ _ _, HPk.out, by simpa [pkT] using HDk.out, by simpa using HSk.out, by simpa using HQD.out, HBk.out, hB0le⟩
      case round =>
        clear HPk HDk HSk HBk HQD hB0le hB0
        obtain ⟨j, A1, c1, ad', cd', rfl, hj, rfl, rfl, ho, hP, hD, hSd, hqd, hB, hB0⟩ := hrel
        have HO := Lib.hid ho; clear ho
        have HP := Lib.hid hP; clear hP
        have HD := Lib.hid hD; clear hD
        have HSd := Lib.hid hSd; clear hSd
        have HQD := Lib.hid hqd; clear hqd
        have HB := Lib.hid hB; clear hB
        by_cases hjl : j < K
        · have hjk : (j : Int) < k := by omega
          have hd0 := HD.out.cell 0
          have hd1 := HD.out.cell 1
          have hdl := HD.out.lt
          simp only [List.getElem?_toArray, List.getElem?_cons_zero, List.getElem?_cons_succ] at hd0 hd1
          have htb : pkT xs t j + 1 < 1000000000000 := by unfold pkT; omega
          have ht0' : 0 ≤ pkT xs t j := by unfold pkT; omega
          have hnx := ref08_Next ad' cd' (xs.drop j) (pkT xs t j) 5 wr HSd.out (drop_in HIN.out j) (by rw [List.length_drop]; omega) ht0' htb (by omega) (by omega)
          rw [pkV_drop, drop_drop1, pkT_step] at hnx
          have hyx : 0 < (xs.drop (j + 1)).length → 0 < (xs.drop j).length := by rw [List.length_drop, List.length_drop]; omega
          have HYX := Lib.hid hyx; clear hyx
          generalize hV : pkV xs t 5 j = V at *
          have HV := Lib.hid hV; clear hV
          generalize hys1 : xs.drop (j + 1) = ys at *
          have HYS := Lib.hid hys1; clear hys1
          generalize htt : pkT xs t (j + 1) = t2 at *
          have HTT := Lib.hid htt; clear htt
          generalize pkT xs t j = t1 at *
          generalize hxs1 : xs.drop j = xj at *
          clear hxs1
          have HNX := Lib.hid hnx; clear hnx htb ht0'
          go_wp2_with (go_at_call 71; refine HNX.out.mono ?_; rintro e w6 ⟨a6, c6, rfl, s6, b6, hq6⟩)
          have hal := (Below.refl w6.heap.size w6).alloc (Nat.le_refl _) (.cells #[.slice a6 ys.length c6, .int .i64 t2] 118)
          have kn := Blk.new w6 118 #[.slice a6 ys.length c6, .int .i64 t2]
          have b56 : Below wr.heap.size wr (w6.alloc (.cells #[.slice a6 ys.length c6, .int .i64 t2] 118)) := below_step b6 b6.size hal
          have hS6 := s6.below hal
          have hdl6 : w2.heap.size < w6.heap.size := by have := b6.size; omega
          have hB6 : B0 ≤ w6.heap.size := by have := b6.size; omega
          have hkw : wr.heap.size ≤ w6.heap.size := b6.size
          have ho6 := own_below HO.out b56
          generalize w6.alloc (.cells #[.slice a6 ys.length c6, .int .i64 t2] 118) = W5 at *
          generalize w6.heap.size = kb at *
          have P6 := HP.out.of_below b56
          have D6 := HD.out.of_below b56
          have hBW := below_step HB.out HB.out.size b56
          have e0 := kn.cell 0
          have e1 := kn.cell 1
          have el := kn.lt
          have f0 := D6.frozen 0
          have f1 := D6.frozen 1
          have fd0 := D6.cell 0
          have fd1 := D6.cell 1
          have fdl := D6.lt
          simp only [List.getElem?_toArray, List.getElem?_cons_zero, List.getElem?_cons_succ] at e0 e1 fd0 fd1
          have hne : ∀ z, z < B0 ∨ wr.heap.size ≤ z → some z ≠ (Value.slice A1 j c1).ownBlock := fun z hz e => by
            have h1 := own_base HO.out z e.symm
            have h2 := (HO.out.lt z e.symm).2
            omega
          have HNE := Lib.hid hne; clear hne
          have HOA := Lib.hid ((show W5.drew.ownsRow B0 3 1 (.slice A1 j c1) j (nums .i64 (pkL xs t 5 j)) from ho6).alloc (.cells #[.int .i64 V] 3))
          have HNEWS := Lib.hid (World.news_of_block (Blk.new W5.drew 3 #[.int .i64 V]))
          have HKN := Lib.hid (kn.drew.alloc (.cells #[.int .i64 V] 3))
          have HDN := Lib.hid (D6.drew.alloc (.cells #[.int .i64 V] 3))
          have HPN := Lib.hid (P6.of_below ((Below.refl W5.heap.size W5).drew.alloc (Nat.le_refl _) (.cells #[.int .i64 V] 3)))
          have HSN := Lib.hid (hS6.below ((Below.refl W5.heap.size W5).drew.alloc (Nat.le_refl _) (.cells #[.int .i64 V] 3)))
          have HBN := Lib.hid (hBW.drew.alloc (show w.heap.size ≤ W5.heap.size by omega) (.cells #[.int .i64 V] 3))
          have hb5 : (j + 1) * 8 ≤ 140737488355328 := by omega
          have hb6 : j + 1 ≤ maxLen := by unfold maxLen; omega
          have hb7 : B0 ≤ (W5.drew.alloc (.cells #[.int .i64 V] 3)).heap.size := by rw [size_alloc]; show B0 ≤ W5.heap.size + 1; omega
          have hszA : (W5.drew.alloc (.cells #[.int .i64 V] 3)).heap.size = W5.heap.size + 1 := size_alloc _ _
          have HSZ := Lib.hid hszA; clear hszA
          have HQ6 := Lib.hid hq6; clear hq6
          clear kn D6 P6 hS6 s6 hBW ho6 hal b56 hd0 hd1 b6
          go_wp2_with fail
          go_region_law (refine step_append_lies (W5.drew.alloc (.cells #[.int .i64 V] 3)) rfl (.tmp 86) (.tmp 88) 104 rfl B0 3 i0 (.int .i64 0) 1 8 Try.underlying104 HINF.out HZ0.out HZ1.out HZ2.out rfl (by decide) (.slice A1 j c1) j _ rfl HOA.out ⟨W5.heap.size, 0, none⟩ 1 1 [.int .i64 V] rfl rfl HNEWS.out (by simp [Value.oneCell']) (by decide) hb6 hb5 hb7 _ rfl ?_
                         intro gA capA wA hownA hgrowA hatA hltA
                         have knA : Blk wA kb 118 #[.slice a6 ys.length c6, .int .i64 t2] := (hgrowA.block kb (by rw [HSZ.out]; omega) (HNE.out kb (.inr hkw))).trans HKN.out
                         have dnA : Blk wA w2.heap.size 118 #[.slice ad' xj.length cd', .int .i64 t1] := (hgrowA.block w2.heap.size (by rw [HSZ.out]; omega) (HNE.out _ (.inl hdr0))).trans HDN.out
                         have ka0 := knA.cell 0
                         have ka1 := knA.cell 1
                         have kal := knA.lt
                         have da0 := dnA.cell 0
                         have da1 := dnA.cell 1
                         have df0 := dnA.frozen 0
                         have df1 := dnA.frozen 1
                         have dal := dnA.lt
                         simp only [List.getElem?_toArray, List.getElem?_cons_zero, List.getElem?_cons_succ] at ka0 ka1 da0 da1
                         have HGA := Lib.hid hgrowA; clear hgrowA
                         have HOWN := Lib.hid hownA; clear hownA
                         have HDA := Lib.hid dnA; clear dnA knA hatA)
          all_goals
            go_frame
            go_wp2_with fail
            go_roundg (K - (j + 1))
            case measure => omega
            case rel =>
              have q6 : ∀ q, a6 = some q → 0 < ys.length → q.block < w.heap.size := fun q hq h0 => by
                obtain ⟨q1, hq1, he⟩ := HQ6.out q hq
                have := HQD.out q1 hq1 (HYX.out h0); omega
              have hgd : g ≠ w2.heap.size := by omega
              have s6 := HSN.out.grownN HGA.out (fun q hq h0 => HNE.out _ (.inl (by have := q6 q hq h0; omega)))
              have s6' := (s6.farN (p := ⟨w2.heap.size, 0, none⟩) (fun q hq h0 => by have := q6 q hq h0; dsimp only; omega) (.slice a6 ys.length c6)).farN (p := ⟨w2.heap.size, 1, none⟩) (fun q hq h0 => by have := q6 q hq h0; dsimp only; omega) (.int .i64 t2)
              have hPN := HPN.out
              have pA : Pk wA g a' c' xs t := ⟨(HGA.out.block g hPN.blk.lt (HNE.out g (.inl hgr))).trans hPN.blk, hPN.sl.grownN HGA.out (fun q hq h0 => HNE.out _ (.inl (by have := HQA.out q hq h0; omega))), hPN.t0, hPN.t1, hPN.in_, hPN.len⟩
              have pA' := (pA.farN (p := ⟨w2.heap.size, 0, none⟩) hgd (fun q hq h0 => by have := HQA.out q hq h0; dsimp only; omega) (.slice a6 ys.length c6)).farN (p := ⟨w2.heap.size, 1, none⟩) hgd (fun q hq h0 => by have := HQA.out q hq h0; dsimp only; omega) (.int .i64 t2)
              have oA := (HOWN.out.kept (grown_set wA w2.heap.size 0 (.slice a6 ys.length c6)) (own_ne HOWN.out hdr0))
              have oA' := oA.kept (grown_set _ w2.heap.size 1 (.int .i64 t2)) (own_ne oA hdr0)
              have bA := HBN.out.grown HGA.out (by rw [HSZ.out]; omega) (fun z hz => by have := own_base HO.out z hz; omega)
              have hszA := HGA.out.size
              have hs0 := HSZ.out
              refine ⟨j + 1, some ⟨gA, 0, none⟩, capA, a6, c6, rfl, by omega, by go_num, rfl, ?_, pA', ?_, ?_, ?_, (bA.setCell (show w.heap.size ≤ w2.heap.size by omega) _).setCell (show w.heap.size ≤ w2.heap.size by omega) _, ?_⟩
              · rw [pkL_succ, HV.out, show nums .i64 (pkL xs t 5 j ++ [V]) = nums .i64 (pkL xs t 5 j) ++ [.int .i64 V] by simp [nums]]; exact oA'
              · rw [HYS.out, HTT.out]; exact (HDA.out.put 0 (.slice a6 ys.length c6)).put 1 (.int .i64 t2)
              · rw [HYS.out]; exact s6'
              · rw [HYS.out]; exact q6
              · rw [size_setCell, size_setCell]; omega
        · have hjk : ¬ (j : Int) < k := by omega
          have hjK : j = K := by omega
          subst hjK
          have hpl : (pkL xs t 5 j).length = j := pkL_length _ _ _ _
          have HPL := Lib.hid hpl; clear hpl
          have hbad := fun W => picks_Some_bad g W
          by_cases hk : 0 ≤ k
          · obtain rfl : k = (j : Int) := by omega
            clear hK2 hjk
            have hsome := picks_Some g a' c' xs t 5 j wr HP.out (by omega) (by omega) (by omega) (by omega)
            have HSOME := Lib.hid hsome; clear hsome
            go_wp2_with fail
            refine HSOME.out.mono ?_
            rintro e w9 ⟨a9, c9, A9, d9, rfl, o9, p9, g9, -⟩
            have hs9 : Sl .i64 w9 A9 d9 (pkL xs t 5 j) := by unfold Sl; rw [HPL.out]; exact own_rd o9
            have hsW : Sl .i64 w9 A1 c1 (pkL xs t 5 j) := by unfold Sl; rw [HPL.out]; exact own_rd (HO.out.kept g9 (own_ne HO.out hgr))
            have heq := slices_Equal_i64 A9 A1 d9 c1 (pkL xs t 5 j) (pkL xs t 5 j) w9 hs9 hsW (by rw [HPL.out]; omega) (by rw [HPL.out]; omega)
            rw [HPL.out] at heq
            have HEQ := Lib.hid heq; clear heq hs9 hsW o9 p9
            have hB9 := HB.out.grown g9 HB.out.size (fun z hz => by cases hz; exact hgw)
            go_wp2_with (first
              | (go_at_call 66; refine HEQ.out.mono ?_; rintro e w10 ⟨rfl, q, rfl⟩)
              | (go_at_call 67; refine (hbad _).mono ?_; clear hbad; rintro e w11 ⟨rfl, rfl⟩))
            go_ret
            exact ⟨rfl, below_drewN hB9 q⟩
          · have hj0 : j = 0 := by omega
            subst hj0
            have hneg := picks_Some_neg g k (by omega) wr
            have hsW : Sl .i64 wr A1 c1 [] := own_rd HO.out
            have heq := slices_Equal_i64 none A1 0 c1 [] [] wr (Rd.nil_ _ _) hsW (by decide) (by decide)
            have HEQ := Lib.hid heq; clear heq hsW
            have HNG := Lib.hid hneg; clear hneg
            have hk' : k < 0 := by omega
            clear hK2 hjk
            go_wp2_with fail
            refine HNG.out.mono ?_
            rintro e w9 ⟨rfl, rfl⟩
            go_wp2_with (first
              | (go_at_call 66; refine HEQ.out.mono ?_; rintro e w10 ⟨rfl, q, rfl⟩)
              | (go_at_call 67; refine (hbad _).mono ?_; clear hbad; rintro e w11 ⟨rfl, rfl⟩))
            go_ret
            exact ⟨rfl, below_drewN HB.out q⟩
end Go.Proofs.Ytlfnoailaoiedaa
