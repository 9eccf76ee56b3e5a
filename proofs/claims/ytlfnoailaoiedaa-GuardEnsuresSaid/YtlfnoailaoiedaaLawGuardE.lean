/- The walk of layer 7's law GuardEnsures. -/
import Derived.Test.YtlfnoailaoiedaaGuardSorted
import Derived.Test.YtlfnoailaoiedaaGuardAll
import Derived.Test.YtlfnoailaoiedaaAwake07
namespace Go.Proofs.Ytlfnoailaoiedaa
open Go.RowKit
set_option linter.unusedVariables false
set_option linter.unusedSimpArgs false

theorem if_fail_eq (c : Int) (W : World) : (binOp .eql 20 (.iface 97 (.agg #[.int .i64 c])) (.iface 97 (.agg #[.int .i64 c]))).run Try.prog W = .ok (.bool true) W := by
  simp only [binOp]
  simp [Op.equal, Op.maxDepth, fail_iface 9997]
theorem take_snocE (L : List EndV) {i : Nat} (h : i < L.length) : L.take (i + 1) = L.take i ++ [L.getD i default] := by
  rw [List.take_add_one, List.getD_eq_getElem?_getD, List.getElem?_eq_getElem h]; rfl

set_option maxRecDepth 100000 in
set_option maxHeartbeats 8000000 in
theorem law_GuardEnsures (a : Option Addr) (m cap : Nat) (L : List EndV) (w : World) (hz : EndsIn w a m L) :
    Calls Try.prog 10 #[.slice a m cap] w fun e w' => e = .returned (.bool true) ∧ RowKit.Below w.heap.size w w' := by
  obtain ⟨rfl, hm, hL, hcs⟩ := hz
  by_cases hbig : 30 < L.length
  · go_enter Try.func10, Try.ntmps10
    go_wp2_with (first | (go_at_call 47; refine (law07_awake _).mono ?_; rintro e w' ⟨rfl, hb⟩))
    go_ret
    exact ⟨rfl, hb⟩
  have HL := Lib.hid hL; clear hL
  have HC := Lib.hid hcs; clear hcs
  have hmf : ∀ (fn : Fn) (first cap : Array Value) (w : World), (Instr.makeFunc fn first cap).run Try.prog w = .ok (.func fn first cap) w := fun _ _ _ _ => rfl
  have HMF := Lib.hid hmf; clear hmf
  go_enter Try.func10, Try.ntmps10
  go_wp2_with (first | (go_at_call 47; refine (law07_awake _).mono ?_; rintro e w0 ⟨rfl, hb0⟩))
  have hg0 : w.heap.size ≤ w0.heap.size := hb0.size
  go_loopg [4, 22] L.length (fun gh v iv wr => ∃ (i f : Nat) (cb : Array Value), gh = L.length - i ∧ i ≤ L.length ∧ iv = .int .i64 i ∧ v = .func (.func f) #[] cb ∧ Chain w0.heap.size wr (L.take i) f cb ∧ Blk wr w0.heap.size 104 #[.slice none 0 0] ∧ RowKit.Below w.heap.size w wr)
  case atStart => exact ⟨0, _, _, by omega, by omega, rfl, rfl, .nil, Blk.new _ _ _, hb0.alloc hg0 _⟩
  case round =>
    obtain ⟨i, f, cb, rfl, hi, rfl, rfl, hch, hk, hB⟩ := hrel
    clear hb0
    have hsz := hB.size
    have hgl := hk.lt
    have HCH := Lib.hid hch; clear hch
    have HK := Lib.hid hk; clear hk
    have HB := Lib.hid hB; clear hB
    by_cases hlt : i < L.length
    · obtain ⟨b, off, rfl, hbs, hc⟩ := HC.out (by omega)
      obtain ⟨k0, k1, k2⟩ := hc i hlt
      have e0 := (HB.out.cell (p := ⟨b, off + i * 3, none⟩) hbs).trans k0
      have e1 := (HB.out.cell (p := ⟨b, off + i * 3 + 1, none⟩) hbs).trans k1
      have e2 := (HB.out.cell (p := ⟨b, off + i * 3 + 2, none⟩) hbs).trans k2
      clear hc k0 k1 k2
      have HX := Lib.hid (HL.out _ (getD_mem hlt))
      have HT := Lib.hid (take_snocE L hlt)
      generalize L.getD i default = x at *
      obtain ⟨xd, xc, xs⟩ := x
      dsimp only at e0 e1 e2
      have hmf := HMF.out
      have hst := fun (a : Addr) (md : Mode) (W : World) => run_store Try.prog W a (.func (.func f) #[] cb) md rfl
      go_wp2_with fail
      clear hmf hst
      have hA1 := (RowKit.Below.refl wr.heap.size wr).alloc (Nat.le_refl _) (.cells #[.int .i64 i] 3)
      have hA2 := hA1.alloc hA1.size (.cells #[.int .u8 xd, .int .u8 xc, .string xs] 93)
      have hA3 := hA2.alloc hA2.size (.cells #[.func (.func f) #[] cb] 1)
      have b5 := ((Blk.new wr 3 #[.int .i64 i]).alloc (.cells #[.int .u8 xd, .int .u8 xc, .string xs] 93)).alloc (.cells #[.func (.func f) #[] cb] 1)
      have b6 := (Blk.new (wr.alloc (.cells #[.int .i64 i] 3)) 93 #[.int .u8 xd, .int .u8 xc, .string xs]).alloc (.cells #[.func (.func f) #[] cb] 1)
      have b7 := Blk.new ((wr.alloc (.cells #[.int .i64 i] 3)).alloc (.cells #[.int .u8 xd, .int .u8 xc, .string xs] 93)) 1 #[.func (.func f) #[] cb]
      rw [size_alloc] at b6
      rw [size_alloc, size_alloc] at b7
      go_roundg (L.length - (i + 1))
      case measure => omega
      case rel =>
        refine ⟨i + 1, _, _, rfl, by omega, by go_num, rfl, ?_, HK.out.of_below hA3, below_step HB.out hsz hA3⟩
        rw [HT.out]
        have hli : (L.take i).length = i := by rw [List.length_take]; omega
        exact .snoc (x := ⟨xd, xc, xs⟩) (HCH.out.kept (bel_grownC hA3 _)) HX.out (by omega) (by omega) (by omega) b7 b6 (by rw [hli]; exact b5)
    · obtain rfl : i = L.length := by omega
      have hch := HCH.out
      rw [List.take_length] at hch
      go_wp2_with fail
      refine (guard_TryC w0.heap.size f cb L wr hch (by omega) HK.out).mono ?_
      rintro e w2 ⟨r, p, rfl, hp, hg2, A, c, kd, od⟩
      have HB2 := Lib.hid (HB.out.grown hg2 hsz (fun z hz => by cases hz; exact hg0))
      have HRD := Lib.hid (own_rd od); clear od
      have HP := Lib.hid hp; clear hp
      have d0 := kd.cell 0
      simp only [List.getElem?_toArray, List.getElem?_cons_zero] at d0
      clear hg2 kd hch HCH HK HB
      have hnn : ((L.length : Int) != (L.length : Int)) = false := by simp
      go_wp2_with (go_at_call 60; refine (sorted_range_call A c L.length w2 HRD.out (by omega)).mono ?_; rintro e w3 ⟨rfl, hb3⟩)
      clear hnn d0 HRD
      have HB3 := Lib.hid (below_step HB2.out HB2.out.size hb3)
      clear hb3 HB2
      have hw3 := HB3.out.size
      go_loopg [47] L.length (fun gh iv wr => ∃ (i : Nat), gh = L.length - i ∧ i ≤ L.length ∧ iv = .int .i64 i ∧ (∀ x ∈ L.take i, x.want = 0) ∧ Blk wr w3.heap.size 93 #[.int .u8 0, .int .u8 0, .string ByteArray.empty] ∧ RowKit.Below w.heap.size w wr)
      case atStart => exact ⟨0, by omega, by omega, rfl, (by simp), Blk.new _ _ _, HB3.out.alloc hw3 _⟩
      case round =>
        obtain ⟨i, rfl, hi, rfl, hz, hk, hB⟩ := hrel
        clear HB3
        have hsz := hB.size
        have hkl := hk.lt
        have HK := Lib.hid hk; clear hk
        have HZ := Lib.hid hz; clear hz
        have HB := Lib.hid hB; clear hB
        by_cases hlt : i < L.length
        · obtain ⟨b, off, rfl, hbs, hc⟩ := HC.out (by omega)
          obtain ⟨k0, k1, k2⟩ := hc i hlt
          have e0 := (HB.out.cell (p := ⟨b, off + i * 3, none⟩) hbs).trans k0
          have e1 := (HB.out.cell (p := ⟨b, off + i * 3 + 1, none⟩) hbs).trans k1
          have e2 := (HB.out.cell (p := ⟨b, off + i * 3 + 2, none⟩) hbs).trans k2
          clear hc k0 k1 k2
          have HX := Lib.hid (HL.out _ (getD_mem hlt))
          have HM := Lib.hid (getD_mem hlt)
          have HT := Lib.hid (take_snocE L hlt)
          generalize L.getD i default = x at *
          have HWA := Lib.hid (fun W => end_want x HX.out W)
          unfold EndV.agg at HWA
          have hA1 := (RowKit.Below.refl wr.heap.size wr).alloc (Nat.le_refl _) (.cells #[.int .u8 x.d, .int .u8 x.c, .string x.s] 93)
          have bx := Blk.new wr 93 #[.int .u8 x.d, .int .u8 x.c, .string x.s]
          have BX := Lib.hid bx; clear bx
          have HA := Lib.hid hA1; clear hA1
          by_cases hw0 : x.want = 0
          · have hw0' : (x.want != 0) = false := by simpa using hw0
            have HW0 := Lib.hid hw0; clear hw0
            go_wp2_with (go_at_call 50; refine (HWA.out _).mono ?_; rintro e w5 ⟨rfl, hb5⟩)
            go_roundg (L.length - (i + 1))
            case measure => omega
            case rel =>
              refine ⟨i + 1, rfl, by omega, by go_num, ?_, (HK.out.of_below HA.out).of_below hb5, below_step HB.out hsz (below_step HA.out HA.out.size hb5)⟩
              rw [HT.out]
              intro y hy
              rcases List.mem_append.1 hy with h1 | h1
              · exact HZ.out y h1
              · rw [List.mem_singleton.1 h1]; exact HW0.out
          · have hw0' : (x.want != 0) = true := by simpa using hw0
            obtain rfl : p = true := by
              rcases HP.out with ⟨h1, h2⟩ | ⟨h1, h2⟩
              · exact absurd (h1 x HM.out) hw0
              · exact h2
            have HW0 := Lib.hid hw0; clear hw0
            go_wp2_with (go_at_call 50; refine (HWA.out _).mono ?_; rintro e w5 ⟨rfl, hb5⟩; have bx5 := BX.out.of_below hb5; have x0 := bx5.cell 0; have x1 := bx5.cell 1; have x2 := bx5.cell 2; simp only [List.getElem?_toArray, List.getElem?_cons_zero, List.getElem?_cons_succ] at x0 x1 x2; have k5 := (HK.out.of_below HA.out).of_below hb5; have z0 := k5.cell 0; have z1 := k5.cell 1; have z2 := k5.cell 2; have y0 := k5.frozen 0; have y1 := k5.frozen 1; have y2 := k5.frozen 2; simp only [List.getElem?_toArray, List.getElem?_cons_zero, List.getElem?_cons_succ] at z0 z1 z2; have B5 := Lib.hid hb5; have K5 := Lib.hid k5; clear bx5 hb5 k5)
            clear y0 y1 y2 z0 z1 z2 x0 x1 x2
            have KY := Lib.hid (show Blk (((w5.setCell ⟨w3.heap.size, 0, none⟩ (.int .u8 x.d)).setCell ⟨w3.heap.size, 1, none⟩ (.int .u8 x.c)).setCell ⟨w3.heap.size, 2, none⟩ (.string x.s)) w3.heap.size 93 #[.int .u8 x.d, .int .u8 x.c, .string x.s] from by simpa using ((K5.out.put 0 (.int .u8 x.d)).put 1 (.int .u8 x.c)).put 2 (.string x.s))
            have HBX := Lib.hid ((((below_step HB.out hsz (below_step HA.out HA.out.size B5.out)).setCell (p := ⟨w3.heap.size, 0, none⟩) hw3 (.int .u8 x.d)).setCell (p := ⟨w3.heap.size, 1, none⟩) hw3 (.int .u8 x.c)).setCell (p := ⟨w3.heap.size, 2, none⟩) hw3 (.string x.s))
            refine (guard_Ensure_nil _).mono ?_
            rintro e wz ⟨rfl, rfl⟩
            have hmf := HMF.out
            go_wp2_with fail
            refine (guard_TryM x HX.out w3.heap.size _ KY.out).mono ?_
            rintro e w7 ⟨rfl, hb7⟩
            clear hmf
            have KY7 := KY.out.of_below hb7
            have y0 := KY7.cell 0
            have y1 := KY7.cell 1
            have y2 := KY7.cell 2
            simp only [List.getElem?_toArray, List.getElem?_cons_zero, List.getElem?_cons_succ] at y0 y1 y2
            have HB7 := Lib.hid (below_step HBX.out HBX.out.size hb7)
            clear hb7 KY7
            have hwt := end_want x HX.out w7
            unfold EndV.agg at hwt
            have HWT := Lib.hid hwt; clear hwt
            have hif := fun W => if_fail_eq 15 W
            go_wp2_with (go_at_call 50; refine HWT.out.mono ?_; rintro e w8 ⟨rfl, hb8⟩)
            go_ret
            exact ⟨rfl, below_step HB7.out HB7.out.size hb8⟩
        · obtain rfl : i = L.length := by omega
          obtain rfl : p = false := by
            rcases HP.out with ⟨h1, h2⟩ | ⟨⟨x, hx, hxw⟩, h2⟩
            · exact h2
            · exact absurd (HZ.out x (by rw [List.take_length]; exact hx)) hxw
          have HBX := HB
          have KY := HK
          go_wp2_with fail
          refine (guard_Ensure_nil _).mono ?_
          rintro e wz ⟨rfl, rfl⟩
          have hmf := HMF.out
          go_wp2_with fail
          refine (guard_TryM ⟨0, 0, ByteArray.empty⟩ ⟨by decide, by decide, by decide, by decide⟩ w3.heap.size _ KY.out).mono ?_
          rintro e w7 ⟨rfl, hb7⟩
          clear hmf
          have KY7 := KY.out.of_below hb7
          have y0 := KY7.cell 0
          have y1 := KY7.cell 1
          have y2 := KY7.cell 2
          simp only [List.getElem?_toArray, List.getElem?_cons_zero, List.getElem?_cons_succ] at y0 y1 y2
          have HB7 := Lib.hid (below_step HBX.out HBX.out.size hb7)
          clear hb7 KY7
          have hwt := end_want ⟨0, 0, ByteArray.empty⟩ ⟨by decide, by decide, by decide, by decide⟩ w7
          unfold EndV.agg at hwt
          rw [show EndV.want ⟨0, 0, ByteArray.empty⟩ = 0 from rfl] at hwt
          have HWT := Lib.hid hwt; clear hwt
          have hif := fun W => if_fail_eq 15 W
          go_wp2_with (go_at_call 50; refine HWT.out.mono ?_; rintro e w8 ⟨rfl, hb8⟩)
          go_ret
          exact ⟨rfl, below_step HB7.out HB7.out.size hb8⟩
end Go.Proofs.Ytlfnoailaoiedaa
