/- The walk of layer 7's law GuardCatches. -/
import Derived.Test.YtlfnoailaoiedaaGuardIf
import Derived.Test.YtlfnoailaoiedaaAwake07
import Derived.Deep.RegionHeld3
import Derived.Deep.QuietTactic
namespace Go.Proofs.Ytlfnoailaoiedaa
open Go.RowKit
set_option linter.unusedVariables false
set_option linter.unusedSimpArgs false

theorem funcs_take (L : List EndV) {i : Nat} (h : i < L.length) : funcs (L.take (i + 1)) = funcs (L.take i) ++ [(L.getD i default).func] := by
  rw [List.take_add_one, List.getD_eq_getElem?_getD, List.getElem?_eq_getElem h]
  simp only [funcs, Option.toList, List.map_append, List.map_cons, List.map_nil, Option.getD_some]

set_option maxRecDepth 100000 in
set_option maxHeartbeats 8000000 in
theorem law_GuardCatches (a : Option Addr) (m cap : Nat) (L : List EndV) (w : World) (hz : EndsIn w a m L) :
    Calls Try.prog 9 #[.slice a m cap] w fun e w' => e = .returned (.bool true) ∧ RowKit.Below w.heap.size w w' := by
  obtain ⟨rfl, hm, hL, hcs⟩ := hz
  by_cases hbig : 60 < L.length
  · go_enter Try.func9, Try.ntmps9
    go_wp2_with (first | (go_at_call 47; refine (law07_awake _).mono ?_; rintro e w' ⟨rfl, hb⟩))
    go_ret
    exact ⟨rfl, hb⟩
  have HL := Lib.hid hL; clear hL
  have HC := Lib.hid hcs; clear hcs
  have hmf : ∀ (fn : Fn) (first cap : Array Value) (w : World), (Instr.makeFunc fn first cap).run Try.prog w = .ok (.func fn first cap) w := fun _ _ _ _ => rfl
  have HMF := Lib.hid hmf; clear hmf
  go_enter Try.func9, Try.ntmps9
  go_wp2_with (first | (go_at_call 47; refine (law07_awake _).mono ?_; rintro e w0 ⟨rfl, hb0⟩))
  go_loopg [3, 16] L.length (fun gh v iv wr => ∃ (i : Nat) (A1 : Option Addr) (c1 : Nat), gh = L.length - i ∧ i ≤ L.length ∧ iv = .int .i64 i ∧ v = .slice A1 i c1 ∧ wr.ownsRow w.heap.size 1 1 (.slice A1 i c1) i (funcs (L.take i)) ∧ RowKit.Below w.heap.size w wr)
  case atStart => exact ⟨0, none, 0, by omega, by omega, rfl, rfl, World.ownsRow_nil _ _ _ _, hb0⟩
  case round =>
    obtain ⟨i, A1, c1, rfl, hi, rfl, rfl, ho, hB⟩ := hrel
    clear hb0
    have hsz := hB.size
    have HO := Lib.hid ho; clear ho
    have HB := Lib.hid hB; clear hB
    by_cases hlt : i < L.length
    · obtain ⟨b, off, rfl, hbs, hc⟩ := HC.out (by omega)
      obtain ⟨k0, k1, k2⟩ := hc i hlt
      have e0 := (HB.out.cell (p := ⟨b, off + i * 3, none⟩) hbs).trans k0
      have e1 := (HB.out.cell (p := ⟨b, off + i * 3 + 1, none⟩) hbs).trans k1
      have e2 := (HB.out.cell (p := ⟨b, off + i * 3 + 2, none⟩) hbs).trans k2
      clear hc k0 k1 k2
      have hx := HL.out _ (getD_mem hlt)
      have HF := Lib.hid (funcs_take L hlt)
      generalize L.getD i default = x at *
      have HWA := Lib.hid (fun W => end_want x hx W)
      have HCA := Lib.hid (fun W => end_catch x hx W)
      have HTR := Lib.hid (fun W => end_try x hx W)
      have hxd0 := hx.d0
      have hxd1 := hx.d1
      have hxc0 := hx.c0
      have hxc1 := hx.c1
      unfold EndV.Res at HTR
      obtain ⟨xd, xc, xs⟩ := x
      unfold EndV.func at HCA HTR HF
      unfold EndV.agg at HWA HCA HTR HF
      dsimp only at HWA HCA HTR HF e0 e1 e2 hxd0 hxd1 hxc0 hxc1
      clear hx
      generalize EndV.want ⟨xd, xc, xs⟩ = WT at *
      have hal := (RowKit.Below.refl wr.heap.size wr).alloc (Nat.le_refl _) (.cells #[.int .u8 xd, .int .u8 xc, .string xs] 93)
      have hk := Blk.new wr 93 #[.int .u8 xd, .int .u8 xc, .string xs]
      have HAL := Lib.hid hal; clear hal
      have HK := Lib.hid hk; clear hk
      have hb1 : (i + 1) * 8 ≤ 140737488355328 := by omega
      have hb2 : i + 1 ≤ 9223372036854775807 := by omega
      have hmf := HMF.out
      have HNE := Lib.hid (show some wr.heap.size ≠ (Value.slice A1 i c1).ownBlock from fun e => absurd (HO.out.lt _ e.symm).2 (Nat.lt_irrefl _))
      have HO1 := Lib.hid (own_below HO.out HAL.out)
      have hsz1 : w.heap.size ≤ (wr.alloc (.cells #[.int .u8 xd, .int .u8 xc, .string xs] 93)).heap.size := by rw [size_alloc]; omega
      go_wp2_with (at_builtin; refine app_one (wr.alloc (.cells #[.int .u8 xd, .int .u8 xc, .string xs] 93)) rfl (.tmp 20) (.tmp 23) 91 rfl w.heap.size 1 Value.nilFunc 1 8 Try.underlying91 Try.infoF rfl (by decide) (.slice A1 i c1) i _ rfl HO1.out [.func (.func 48) #[.agg #[.int .u8 xd, .int .u8 xc, .string xs]] #[]] rfl (by rw [size_alloc]; rfl) (by simp [Value.oneCell']) hb2 hb1 hsz1 ?_; intro A3 c3 w2 h2 g2 _; have K2 : Blk w2 wr.heap.size 93 #[.int .u8 xd, .int .u8 xc, .string xs] := (g2.block wr.heap.size HK.out.lt HNE.out).trans HK.out; have p0 := K2.cell 0; have p1 := K2.cell 1; have p2 := K2.cell 2; have hl2 := K2.lt; have K2' := Lib.hid K2; clear K2; simp only [List.getElem?_toArray, List.getElem?_cons_zero, List.getElem?_cons_succ] at p0 p1 p2; have H2 := Lib.hid h2; clear h2; have HB2 := Lib.hid ((below_step HB.out hsz HAL.out).grown g2 hsz1 (fun z hz => own_base HO1.out z hz)); clear g2 hmf e0 e1 e2 hsz1; have hmf := HMF.out)
      refine (HTR.out _).mono ?_
      rintro e w3 ⟨r, p, rfl, hres, hb3⟩
      have K3 : Blk w3 wr.heap.size 93 #[.int .u8 xd, .int .u8 xc, .string xs] := K2'.out.of_below hb3
      have hwf3 : w.heap.size ≤ w2.heap.size := HB2.out.size
      have HB3 := Lib.hid (below_step HB2.out HB2.out.size hb3)
      have HO3 := Lib.hid (own_below H2.out hb3)
      clear H2 HB2 K2' hb3 p0 p1 p2 hl2 hmf HO HO1 HB HAL HK
      have q0 : ∀ w', RowKit.Below w3.heap.size w3 w' → w'.cell? ⟨wr.heap.size, 0, none⟩ = some (.int .u8 xd) := fun w' h => by rw [(h.cell (p := ⟨wr.heap.size, 0, none⟩) K3.lt)]; simpa using K3.cell 0
      have q1 : ∀ w', RowKit.Below w3.heap.size w3 w' → w'.cell? ⟨wr.heap.size, 1, none⟩ = some (.int .u8 xc) := fun w' h => by rw [(h.cell (p := ⟨wr.heap.size, 1, none⟩) K3.lt)]; simpa using K3.cell 1
      have q2 : ∀ w', RowKit.Below w3.heap.size w3 w' → w'.cell? ⟨wr.heap.size, 2, none⟩ = some (.string xs) := fun w' h => by rw [(h.cell (p := ⟨wr.heap.size, 2, none⟩) K3.lt)]; simpa using K3.cell 2
      have Q0 := Lib.hid q0; have Q1 := Lib.hid q1; have Q2 := Lib.hid q2; clear q0 q1 q2
      rcases hres with ⟨rfl, hd, rfl, rfl⟩ | ⟨hd, hcz, rfl, rfl, rfl⟩ | ⟨hd, rfl, rfl, u, pv, hodd, rfl⟩
      · have hd5 : xd % 5 = 0 ∨ xd % 5 = 1 := by omega
        rcases hd5 with h5 | h5
        · have htm : xd.tmod 5 = xd % 5 := Int.tmod_eq_emod_of_nonneg hxd0
          have hgt : decide (1 < xd.tmod 5) = false := by rw [htm]; simp [h5]
          have heq : (xd.tmod 5 == 1) = false := by rw [htm]; simp; omega
          clear htm
          have hmf := HMF.out
          have hnn := if_nil_nil
          go_wp2_with fail
          refine wp_region_class (fun w' => RowKit.Below w3.heap.size w3 w') (by kernel_rfl) (by kernel_rfl) (RowKit.Below.refl _ _).drew ?_
          repeat (first | go_big_quiet_skip | (go_big_quiet_want; first | (go_big_quiet_op; go_big_quiet_on) | (apply Exists.intro; refine ⟨fun w' hw' => ?_, ?_⟩; (have hcl := hw'; have q0 := Q0.out _ hcl; have q1 := Q1.out _ hcl; have q2 := Q2.out _ hcl; unfold Oper.quietAt; go_simp; first | done | exact ⟨rfl, hcl⟩ | exact ⟨rfl, rfl⟩ | exact rfl | (first | (go_at_call 50; refine (HWA.out _).mono ?_; rintro e wn ⟨rfl, hbn⟩; exact ⟨rfl, below_step hcl (hcl.size) hbn⟩) | (go_at_call 51; refine (HCA.out _).mono ?_; rintro e wn ⟨rfl, hbn⟩; exact ⟨rfl, below_step hcl (hcl.size) hbn⟩))); (go_simp; go_big_quiet_on))))
  
          refine wpQuiet_nil ?_
          intro wq hcl
          go_wp2_with fail
          go_roundg (L.length - (i + 1))
          case measure => omega
          case rel => exact ⟨i + 1, A3, c3, rfl, by omega, by go_num, rfl, HF.out ▸ own_below HO3.out hcl, below_step HB3.out HB3.out.size hcl⟩
        · have htm : xd.tmod 5 = xd % 5 := Int.tmod_eq_emod_of_nonneg hxd0
          have hgt : decide (1 < xd.tmod 5) = false := by rw [htm]; simp [h5]
          have heq : (xd.tmod 5 == 1) = true := by rw [htm]; simp; omega
          clear htm
          have hmf := HMF.out
          have hnn := if_nil_nil
          go_wp2_with fail
          refine wp_region_class (fun w' => RowKit.Below w3.heap.size w3 w') (by kernel_rfl) (by kernel_rfl) (RowKit.Below.refl _ _).drew ?_
          repeat (first | go_big_quiet_skip | (go_big_quiet_want; first | (go_big_quiet_op; go_big_quiet_on) | (apply Exists.intro; refine ⟨fun w' hw' => ?_, ?_⟩; (have hcl := hw'; have q0 := Q0.out _ hcl; have q1 := Q1.out _ hcl; have q2 := Q2.out _ hcl; unfold Oper.quietAt; go_simp; first | done | exact ⟨rfl, hcl⟩ | exact ⟨rfl, rfl⟩ | exact rfl | (first | (go_at_call 50; refine (HWA.out _).mono ?_; rintro e wn ⟨rfl, hbn⟩; exact ⟨rfl, below_step hcl (hcl.size) hbn⟩) | (go_at_call 51; refine (HCA.out _).mono ?_; rintro e wn ⟨rfl, hbn⟩; exact ⟨rfl, below_step hcl (hcl.size) hbn⟩))); (go_simp; go_big_quiet_on))))
  
          refine wpQuiet_nil ?_
          intro wq hcl
          go_wp2_with fail
          go_roundg (L.length - (i + 1))
          case measure => omega
          case rel => exact ⟨i + 1, A3, c3, rfl, by omega, by go_num, rfl, HF.out ▸ own_below HO3.out hcl, below_step HB3.out HB3.out.size hcl⟩
      · have htm : xd.tmod 5 = xd % 5 := Int.tmod_eq_emod_of_nonneg hxd0
        have hgt : decide (1 < xd.tmod 5) = false := by rw [htm]; simp [hd]
        have heq : (xd.tmod 5 == 1) = true := by rw [htm]; simp; omega
        clear htm
        have hmf := HMF.out
        have hif := fun W => if_fail WT W
        have hcz' : (WT != 0) = true := by simpa using hcz
        have hcc : (WT != WT) = false := by simp
        have hw2 : IntKind.i64.wrap WT = WT := by rw [IntKind.wrap_i64]; omega
        go_wp2_with fail
        refine wp_region_class (fun w' => RowKit.Below w3.heap.size w3 w') (by kernel_rfl) (by kernel_rfl) (RowKit.Below.refl _ _).drew ?_
        repeat (first | go_big_quiet_skip | (go_big_quiet_want; first | (go_big_quiet_op; go_big_quiet_on) | (apply Exists.intro; refine ⟨fun w' hw' => ?_, ?_⟩; (have hcl := hw'; have q0 := Q0.out _ hcl; have q1 := Q1.out _ hcl; have q2 := Q2.out _ hcl; unfold Oper.quietAt; go_simp; first | done | exact ⟨rfl, hcl⟩ | exact ⟨rfl, rfl⟩ | exact rfl | (first | (go_at_call 50; refine (HWA.out _).mono ?_; rintro e wn ⟨rfl, hbn⟩; exact ⟨rfl, below_step hcl (hcl.size) hbn⟩) | (go_at_call 51; refine (HCA.out _).mono ?_; rintro e wn ⟨rfl, hbn⟩; exact ⟨rfl, below_step hcl (hcl.size) hbn⟩))); (go_simp; go_big_quiet_on))))

        refine wpQuiet_nil ?_
        intro wq hcl
        go_wp2_with fail
        go_roundg (L.length - (i + 1))
        case measure => omega
        case rel => exact ⟨i + 1, A3, c3, rfl, by omega, by go_num, rfl, HF.out ▸ own_below HO3.out hcl, below_step HB3.out HB3.out.size hcl⟩
      · have htm : xd.tmod 5 = xd % 5 := Int.tmod_eq_emod_of_nonneg hxd0
        have hgt : decide (1 < xd.tmod 5) = true := by rw [htm]; simp [hd]
        have heq : (xd.tmod 5 == 1) = false := by rw [htm]; simp; omega
        clear htm
        have hmf := HMF.out
        have hin := fun W => if_nil u pv W
        go_wp2_with fail
        refine wp_region_class (fun w' => RowKit.Below w3.heap.size w3 w') (by kernel_rfl) (by kernel_rfl) (RowKit.Below.refl _ _).drew ?_
        repeat (first | go_big_quiet_skip | (go_big_quiet_want; first | (go_big_quiet_op; go_big_quiet_on) | (apply Exists.intro; refine ⟨fun w' hw' => ?_, ?_⟩; (have hcl := hw'; have q0 := Q0.out _ hcl; have q1 := Q1.out _ hcl; have q2 := Q2.out _ hcl; unfold Oper.quietAt; go_simp; first | done | exact ⟨rfl, hcl⟩ | exact ⟨rfl, rfl⟩ | exact rfl | (first | (go_at_call 50; refine (HWA.out _).mono ?_; rintro e wn ⟨rfl, hbn⟩; exact ⟨rfl, below_step hcl (hcl.size) hbn⟩) | (go_at_call 51; refine (HCA.out _).mono ?_; rintro e wn ⟨rfl, hbn⟩; exact ⟨rfl, below_step hcl (hcl.size) hbn⟩))); (go_simp; go_big_quiet_on))))

        refine wpQuiet_nil ?_
        intro wq hcl
        go_wp2_with fail
        go_roundg (L.length - (i + 1))
        case measure => omega
        case rel => exact ⟨i + 1, A3, c3, rfl, by omega, by go_num, rfl, HF.out ▸ own_below HO3.out hcl, below_step HB3.out HB3.out.size hcl⟩
    · obtain rfl : i = L.length := by omega
      have HRF := Lib.hid (show Rd 1 wr A1 L.length c1 (funcs L) from by
        have := own_rd HO.out
        rw [List.take_length] at this; exact this)
      have HEN := Lib.hid (show ∀ W, RowKit.Below w.heap.size w W → EndsIn W a L.length L from fun W hW => ⟨rfl, hm, HL.out, fun h0 => by
        obtain ⟨b, off, ha, hb, hc⟩ := HC.out h0
        exact ⟨b, off, ha, Nat.lt_of_lt_of_le hb hW.size, fun i hi => ⟨(hW.cell (p := ⟨b, off + i * 3, none⟩) hb).trans (hc i hi).1, (hW.cell (p := ⟨b, off + i * 3 + 1, none⟩) hb).trans (hc i hi).2.1, (hW.cell (p := ⟨b, off + i * 3 + 2, none⟩) hb).trans (hc i hi).2.2⟩⟩⟩)
      clear HO HC
      go_wp2_with fail
      refine (guard_All A1 c1 L HL.out (by omega) wr HRF.out).mono ?_
      rintro e w4 ⟨A4, c4, rfl, ho4, hb4⟩
      have HS4 := Lib.hid (show Sl .i64 w4 A4 c4 (wants L) from by
        have := own_rd ho4
        unfold Sl; rw [show (wants L).length = L.length by simp [wants]]; exact this)
      have HB4 := Lib.hid (below_step HB.out HB.out.size hb4)
      clear ho4 hb4 HRF
      go_wp2_with fail
      refine (gc_equal A4 c4 a cap L w4 HS4.out (HEN.out w4 HB4.out)).mono ?_
      rintro e w5 ⟨rfl, hb5⟩
      have HB5 := Lib.hid (below_step HB4.out HB4.out.size hb5)
      clear hb5 HS4
      go_wp2_with fail
      refine (guard_Catch_nil w5).mono ?_
      rintro e w6 ⟨rfl, hb6⟩
      have HB6 := Lib.hid (below_step HB5.out HB5.out.size hb6)
      clear hb6
      go_wp2_with fail
      go_ret
      exact ⟨rfl, HB6.out⟩
end Go.Proofs.Ytlfnoailaoiedaa
