/- The walk of layer 11's law SlotsLeave. -/
import Derived.Test.YtonfaojmphidpaaGreatDoorSlDelF
namespace Go.Proofs.YtonfaojmphidpaaGreatDoor
open Go.RowKit
set_option linter.unusedVariables false
set_option linter.unusedSimpArgs false

theorem waitS_all {L : List Sv} (h : ∀ x ∈ L, x.id = 0) : waitS L = L.length := by
  unfold waitS
  rw [List.filter_eq_self.2 (fun x hx => by simp [h x hx])]
set_option maxHeartbeats 400000 in
theorem leave1 (th : Int) (B : Nat) (W : World) (x : Sv) (hB : B < W.heap.size) (hcell : W.cell? ⟨B, 0, none⟩ = some (.int .i64 th)) :
    Calls Tryz.prog 57 (#[.agg x.cells.toArray] ++ #[.pointer (some ⟨B, 0, none⟩)]) W fun e w' => e = .returned (.bool (x.th == th)) ∧ RowKit.Below W.heap.size W w' := by
  obtain ⟨a, b, c⟩ := x
  show Calls Tryz.prog 57 #[.agg #[.int .i64 a, .int .u64 b, .int .u64 c], .pointer (some ⟨B, 0, none⟩)] W _
  go_enter Tryz.func57, Tryz.ntmps57
  go_wp2
  go_ret
  exact ⟨rfl, (Below.refl _ _).alloc (Nat.le_refl _) _⟩
theorem th_one {L : List Sv} (hnd : (L.map Sv.th).Nodup) {k : Nat} {x : Sv} {th : Int} (hk : L[k]? = some x) (hx : x.th = th) (j : Nat) (y : Sv) (hj : k < j) (hy : L[j]? = some y) : (y.th == th) = false := by
  obtain ⟨h1, h2⟩ := List.getElem?_eq_some_iff.1 hk
  obtain ⟨h3, h4⟩ := List.getElem?_eq_some_iff.1 hy
  rw [beq_eq_false_iff_ne]
  intro e
  have := List.pairwise_iff_getElem.1 hnd k j (by simpa using h1) (by simpa using h3) hj
  simp only [List.getElem_map, h2, h4] at this
  exact this (by rw [hx, e])

set_option maxRecDepth 100000 in
set_option maxHeartbeats 8000000 in
theorem law_SlotsLeave (a : Option Addr) (len cap : Nat) (zs : List Int) (who id : Int) (w : World) (h1 : Nums .i64 w a len cap zs) (hw0 : -9223372036854775808 ≤ who) (hw1 : who ≤ 9223372036854775807) (hi0 : 0 ≤ id) (hi1 : id ≤ 18446744073709551615) :
    Calls Tryz.prog 11 #[.slice a len cap, .int .i64 who, .int .u64 id] w fun e w' => e = .returned (.bool true) ∧ RowKit.Below w.heap.size w w' := by
  obtain ⟨rfl, hn1, hwf1, hs1⟩ := h1
  clear hwf1
  have hal := (RowKit.Below.refl w.heap.size w).alloc (Nat.le_refl _) (.cells #[.int .i64 who] 3)
  have hk0 := Blk.new w 3 #[.int .i64 who]
  have HAL := Lib.hid hal; clear hal
  by_cases hbig : 60 < zs.length
  · clear hs1 hk0
    go_enter Tryz.func11, Tryz.ntmps11
    go_wp2_with (go_at_call 28; refine (law11_awake _).mono ?_; rintro e w' ⟨rfl, hb⟩)
    go_ret
    exact ⟨rfl, below_step HAL.out HAL.out.size hb⟩
  by_cases hidn : id = 0
  · subst hidn
    clear hs1 hk0
    go_enter Tryz.func11, Tryz.ntmps11
    go_wp2_with (go_at_call 28; refine (law11_awake _).mono ?_; rintro e w' ⟨rfl, hb⟩)
    go_ret
    exact ⟨rfl, below_step HAL.out HAL.out.size hb⟩
  have hidb : (id == 0) = false := by simpa using hidn
  have HS1 := Lib.hid hs1; clear hs1
  have HK0 := Lib.hid hk0; clear hk0
  have HIDN := Lib.hid hidn; clear hidn
  go_enter Tryz.func11, Tryz.ntmps11
  go_wp2_with fail
  refine (law11_awake _).mono ?_
  rintro e w1 ⟨rfl, hb1⟩
  have hk1 := HK0.out.of_below hb1
  have hkl := hk1.lt
  have HK1 := Lib.hid hk1; clear hk1 HK0
  have HB1 := Lib.hid (below_step HAL.out HAL.out.size hb1); clear hb1 HAL
  have hw1s := HB1.out.size
  go_wp2_with fail
  refine (slots_New _).mono ?_
  rintro e w2 ⟨rfl, rfl⟩
  have hs0 := Sk.new w1
  have hal2 := (RowKit.Below.refl w1.heap.size w1).alloc (Nat.le_refl _) (.cells #[.slice none 0 0] 141)
  have hsz2 := size_alloc w1 (.cells #[.slice none 0 0] 141)
  generalize w1.alloc (.cells #[.slice none 0 0] 141) = w2 at *
  generalize hg : w1.heap.size = g at *
  have hgs : g ≤ w2.heap.size := by omega
  have HS0 := Lib.hid hs0; clear hs0
  have HAL2 := Lib.hid hal2; clear hal2
  have HG1 := Lib.hid hg; clear hg
  clear hsz2
  go_wp2_with fail
  go_loopg [31] zs.length (fun gh iv wr => ∃ (k : Nat) (L : List Sv) (A : Option Addr) (c : Nat), gh = zs.length - k ∧ k ≤ zs.length ∧ iv = .int .i64 k ∧ L.length ≤ k ∧ Hid (∀ x ∈ L, x.id = 0) ∧ Hid (L.map Sv.th).Nodup ∧ Sk wr g g A c L ∧ RowKit.Below g w1 wr ∧ g ≤ wr.heap.size)
  case atStart => exact ⟨0, [], none, 0, rfl, by omega, rfl, by simp, (show Hid _ from fun x hx => by cases hx), (show Hid _ from List.nodup_nil), HS0.out, HAL2.out, hgs⟩
  case round =>
    clear HS0 HAL2
    obtain ⟨k, L, A, c, rfl, hk, rfl, hrl, HZ, HND, hS, hB, hgr⟩ := hrel
    have HS := Lib.hid hS; clear hS
    have HB := Lib.hid hB; clear hB
    by_cases hlt : k < zs.length
    · obtain ⟨b, off, rfl, hbs, hc⟩ := HS1.out.at_ (by omega)
      have hbw : RowKit.Below w.heap.size w wr := ⟨HB.out.os.trans HB1.out.os, HB.out.tape.trans HB1.out.tape, HB.out.output.trans HB1.out.output, Nat.le_trans HB1.out.size HB.out.size, fun z hz => (HB.out.block z (by omega)).trans (HB1.out.block z hz)⟩
      have c0 := (hbw.cell (p := ⟨b, off + k, none⟩) hbs).trans (hc k hlt)
      clear hc hbw
      generalize zs.getD k 0 = x at *
      rcases fidx_cases (fun s : Sv => s.th == x) L with ⟨hx, hno⟩ | ⟨i, y, hx, hy, hyx, -⟩
      · have hof := slots_Of_no g g A c L x wr HS.out (by omega)
        have hp := fun W (hb : RowKit.Below wr.heap.size wr W) => slots_Park_new g g A c L x 3 W (HS.out.of_below hb) (by have := hb.size; omega) (by omega) (by omega)
        have HOF := Lib.hid hof; clear hof
        have HP := Lib.hid hp; clear hp hx
        have HNO := Lib.hid hno; clear hno
        go_wp2_with fail
        refine HOF.out.mono ?_
        rintro e w3 ⟨rfl, hb3⟩
        have hb3' := hb3.alloc hb3.size (.cells #[.int .i64 0, .int .u64 0, .int .u64 0] 75)
        have HB3 := Lib.hid hb3'; clear hb3 hb3' HOF
        go_wp2_with fail
        refine (HP.out _ HB3.out).mono ?_
        rintro e w4 ⟨rfl, hto⟩
        have hS4 := hto
        obtain ⟨A4, c4, hS4, hg4, -⟩ := hS4
        have hb4 := hto.below (HS.out.of_below HB3.out) (show RowKit.Below g w1 _ from below_step HB.out hgr HB3.out) (Nat.le_refl _) (Nat.le_refl _) (by have := HB3.out.size; omega)
        have HS4 := Lib.hid hS4; clear hS4
        have HB4 := Lib.hid hb4; clear hb4
        have hg4s : g ≤ w4.heap.size := by have := hg4.size; have := HB3.out.size; omega
        clear hg4 hto HP
        go_wp2_with fail
        go_roundg (zs.length - (k + 1))
        case measure => omega
        case rel =>
          refine ⟨k + 1, L ++ [⟨x, 3, 0⟩], A4, c4, rfl, by omega, by go_num, by simp; omega, (show Hid _ from fun y hy => ?_), (show Hid _ from ?_), HS4.out, HB4.out, hg4s⟩
          · rcases List.mem_append.1 hy with hy | hy
            · exact HZ.out y hy
            · rw [List.mem_singleton.1 hy]
          · rw [List.map_append, List.nodup_append]
            refine ⟨HND.out, by simp, fun p hp q hq => ?_⟩
            obtain ⟨y, hy, rfl⟩ := List.mem_map.1 hp
            simp only [List.map_cons, List.map_nil, List.mem_singleton] at hq
            subst hq
            have := HNO.out y hy
            simpa using this
      · have hof := slots_Of_yes g g A c L x i y wr HS.out hx hy
        have hp := fun W (hb : RowKit.Below wr.heap.size wr W) => slots_Park_had g g A c L x 3 W (HS.out.of_below hb) (by omega)
        have HOF := Lib.hid hof; clear hof
        have HP := Lib.hid hp; clear hp hx hy hyx
        go_wp2_with fail
        refine HOF.out.mono ?_
        rintro e w3 ⟨rfl, hb3⟩
        have hb3' := hb3.alloc hb3.size (.cells #[.int .i64 y.th, .int .u64 y.dl, .int .u64 y.id] 75)
        have HB3 := Lib.hid hb3'; clear hb3 hb3' HOF
        go_wp2_with fail
        refine (HP.out _ HB3.out).mono ?_
        rintro e w4 ⟨rfl, hb4⟩
        have HB4 := Lib.hid (below_step HB3.out HB3.out.size hb4); clear hb4 HP
        go_wp2_with fail
        go_roundg (zs.length - (k + 1))
        case measure => omega
        case rel => exact ⟨k + 1, L, A, c, rfl, by omega, by go_num, by omega, HZ, HND, HS.out.of_below HB4.out, below_step HB.out hgr HB4.out, by have := HB4.out.size; omega⟩
    · have hll : L.length ≤ 60 := by omega
      have hall := slots_All g g A c L wr HS.out
      have HALL := Lib.hid hall; clear hall
      go_wp2_with fail
      clear hlt hrl hk
      refine HALL.out.mono ?_
      rintro e w4 ⟨aw, dw, rfl, how, hb4⟩
      have hs4 := HS.out.of_below hb4
      have HS4 := Lib.hid hs4; clear hs4
      have HWAS := Lib.hid how; clear how
      have hB4 := below_step HB.out hgr hb4
      have hg4 : g ≤ w4.heap.size := by have := hb4.size; omega
      have HB4 := Lib.hid hB4; clear hB4 hb4 HALL HS HB hgr
      have hcl := slots_Clone g g A c L w4 HS4.out
      have HCL := Lib.hid hcl; clear hcl
      go_wp2_with fail
      refine HCL.out.mono ?_
      rintro e w5 ⟨g', A6, c6, rfl, hsc, hgg, hb5⟩
      have k5 := HK1.out.below (below_step HB4.out hg4 hb5) hkl
      have k50 := k5.cell 0
      have k51 := k5.lt
      simp only [List.getElem?_toArray, List.getElem?_cons_zero] at k50
      have HSC := Lib.hid hsc; clear hsc
      have HB5 := Lib.hid hb5; clear hb5 HCL
      have HK5 := Lib.hid k5; clear k5
      obtain ⟨B6, hB6⟩ : ∃ B6, B6 = w4.heap.size := ⟨_, rfl⟩
      rw [← hB6] at HSC
      have hB6w : w.heap.size ≤ B6 := by omega
      have HB6 := Lib.hid hB6; clear hB6
      have hgg2 := HSC.out.blk.lt
      have h45 : RowKit.Below w4.heap.size w4 w5 := HB5.out
      rcases fidx_cases (fun s : Sv => s.th == who) L with ⟨hx, hno⟩ | ⟨k, x, hx, hkx, hxp, -⟩
      · have htk := slots_Take_no B6 g' A6 c6 L who w5 HSC.out (by omega)
        have HTK := Lib.hid htk; clear htk
        have HX := Lib.hid hx; clear hx hno
        go_wp2_with fail
        refine HTK.out.mono ?_
        rintro e w6 ⟨rfl, hb6⟩
        have h46 := below_step h45 h45.size hb6
        have hwas6 := (own_rd HWAS.out).below h46
        have hcl7 := slices_Clone_slot aw L.length dw _ w6 hwas6 (cellsOf_one Sv.cells_one L) (by omega)
        have HCL7 := Lib.hid hcl7; clear hcl7 hwas6
        have H46 := Lib.hid h46; clear h46
        have HB6' := Lib.hid hb6; clear hb6 HTK
        go_wp2_with fail
        refine HCL7.out.mono ?_
        rintro e w7 ⟨a8, d8, rfl, ho7, -, hb7⟩
        have h57 := below_step HB6'.out HB6'.out.size hb7
        have k7 := HK5.out.of_below h57
        have eg : ∀ args w, (callFunc 57 args).run Tryz.prog w = .ok (.enter 57 args) w := enters_of Tryz.func57 (by kernel_rfl) rfl
        have hdel := slices_DeleteFunc_no (fun s => s.th == who) 57 #[.pointer (some ⟨w.heap.size, 0, none⟩)] eg a8 d8 L w7 (own_rw ho7) (by omega) (fun W x hW => by
          have hkW := k7.of_below hW
          refine (leave1 who w.heap.size W x hkW.lt (by rw [hkW.cell]; rfl)).mono ?_
          rintro e w' ⟨he, hb'⟩
          exact ⟨he, below_step hW hW.size hb'⟩) HX.out
        have HDEL := Lib.hid hdel; clear hdel eg
        have HO7 := Lib.hid ho7; clear ho7
        have HB7 := Lib.hid hb7; clear hb7 HCL7 h57 k7
        go_wp2_with fail
        refine HDEL.out.mono ?_
        rintro e w8 ⟨rfl, hb8⟩
        have h68 := below_step HB7.out HB7.out.size hb8
        have h58 := below_step HB6'.out HB6'.out.size h68
        have h48 := below_step H46.out H46.out.size h68
        have hc8 := HSC.out.of_below h58
        have hss8 := HS4.out.of_below h48
        have hwas8 := own_below HWAS.out h48
        have hrest := own_below HO7.out hb8
        have hB8g := below_step HB4.out hg4 h48
        have hB8 : RowKit.Below w.heap.size w w8 := ⟨hB8g.os.trans HB1.out.os, hB8g.tape.trans HB1.out.tape, hB8g.output.trans HB1.out.output, Nat.le_trans HB1.out.size hB8g.size, fun z hz => (hB8g.block z (by omega)).trans (HB1.out.block z hz)⟩
        have ha8 : ∀ z, (Value.slice a8 L.length d8).ownBlock = some z → w6.heap.size ≤ z := fun z hz => own_base hrest z hz
        have hc6b : ∀ z, (Value.slice A6 L.length c6).ownBlock = some z → z < w6.heap.size := fun z hz => by
          have := (HSC.out.row.lt z hz).2; have := HB6'.out.size; omega
        have HRZ := Lib.hid HZ.out
        obtain ⟨R, hRL0⟩ : ∃ R, R = L := ⟨_, rfl⟩
        subst hRL0
        have HC8 := Lib.hid hc8; clear hc8
        have HSS8 := Lib.hid hss8; clear hss8
        have HWAS8 := Lib.hid hwas8; clear hwas8
        have HREST := Lib.hid hrest; clear hrest
        have HB8 := Lib.hid hB8; clear hB8 hB8g
        have HA8 := Lib.hid ha8; clear ha8
        have HC6B := Lib.hid hc6b; clear hc6b
        clear HDEL h68 h58 h48 hb8 h45
        have hR0 := HRZ.out
        have hallc := fun W (hb : RowKit.Below w8.heap.size w8 W) => slots_All B6 g' A6 c6 R W (HC8.out.of_below hb)
        have HALLC := Lib.hid hallc; clear hallc
        have hwtc := fun W (hb : RowKit.Below w8.heap.size w8 W) => slots_Waiting B6 g' A6 c6 R W (HC8.out.of_below hb)
        rw [waitS_all hR0] at hwtc
        have HWTC := Lib.hid hwtc; clear hwtc
        have halls := fun W (hb : RowKit.Below w8.heap.size w8 W) => slots_All g g A c R W (HSS8.out.of_below hb)
        have HALLS := Lib.hid halls; clear halls hR0
        have hRL : R.length ≤ 1000 := HC8.out.len
        have hLL : R.length ≤ 1000 := HSS8.out.len
        go_wp2_with fail
        refine (HALLC.out _ (Below.refl _ _)).mono ?_
        rintro e w9 ⟨a9, d9, rfl, ho9, hb9⟩
        have heq9 := slices_Equal_slot a9 a8 d9 d8 R R w9 (own_rw ho9) ((own_rw HREST.out).below hb9) (by omega) (by omega)
        rw [decide_eq_true rfl] at heq9
        have HEQ9 := Lib.hid heq9; clear heq9 ho9
        have HB9 := Lib.hid hb9; clear hb9 HALLC
        go_wp2_with fail
        refine HEQ9.out.mono ?_
        rintro e w9d ⟨rfl, q9, rfl⟩
        have HB9d := Lib.hid (below_drewN HB9.out q9); clear HEQ9 HB9
        go_wp2_with fail
        refine (HWTC.out _ HB9d.out).mono ?_
        rintro e w10 ⟨rfl, hb10⟩
        have HB10 := Lib.hid (below_step HB9d.out HB9d.out.size hb10); clear hb10 HB9d HWTC
        go_wp2_with fail
        refine (HALLS.out _ HB10.out).mono ?_
        rintro e w11 ⟨a11, d11, rfl, ho11, hb11⟩
        have heq11 := slices_Equal_slot a11 aw d11 dw R R w11 (own_rw ho11) ((own_rw HWAS8.out).below (below_step HB10.out HB10.out.size hb11)) (by omega) (by omega)
        rw [decide_eq_true rfl] at heq11
        have HEQ11 := Lib.hid heq11; clear heq11 ho11
        have HB11 := Lib.hid (below_step HB10.out HB10.out.size hb11); clear hb11 HALLS HB10
        go_wp2_with fail
        refine HEQ11.out.mono ?_
        rintro e w11d ⟨rfl, q11, rfl⟩
        have HB11d := Lib.hid (below_drewN HB11.out q11); clear HEQ11 HB11
        have hc12 := HC8.out.of_below HB11d.out
        have hr12 := own_below HREST.out HB11d.out
        have hb12 := below_step HB8.out HB8.out.size HB11d.out
        obtain ⟨w12, hw12⟩ : ∃ W, W = w11.drewN q11 := ⟨_, rfl⟩
        rw [← hw12] at hc12 hr12 hb12 ⊢
        have HW12 := Lib.hid hw12; clear hw12
        have HC12 := Lib.hid hc12; clear hc12
        have HR12 := Lib.hid hr12; clear hr12
        have HB12 := Lib.hid hb12; clear hb12
        have hsz12 : w8.heap.size ≤ w12.heap.size := by rw [HW12.out]; exact HB11d.out.size
        cases R with
        | nil =>
          have hf := slots_Fill_no B6 g' A6 c6 [] id w12 HC12.out (.inl (by decide))
          have HF := Lib.hid hf; clear hf
          go_wp2_with fail
          refine HF.out.mono ?_
          rintro e w13 ⟨rfl, hb13⟩
          have HB13 := Lib.hid (below_step HB12.out HB12.out.size hb13); clear hb13
          go_wp2_with fail
          go_ret
          exact ⟨rfl, HB13.out⟩
        | cons x0 R' =>
          have hR1 : R'.length ≤ 1000 := by have := HC8.out.len; simp at this; omega
          have hx0 : x0.id = 0 := HRZ.out x0 List.mem_cons_self
          have hf := slots_Fill_yes B6 g' A6 c6 (x0 :: R') id 0 x0 w12 HC12.out (fidx_cons_hit (by simp [hx0])) rfl HIDN.out
          have hrest : ∀ x ∈ R', x.id = 0 := fun x hx => HRZ.out x (List.mem_cons_of_mem _ hx)
          have hw13 : waitS ((x0 :: R').set 0 ⟨x0.th, x0.dl, id⟩) = R'.length := by
            have := waitS_all hrest
            unfold waitS at this ⊢
            rw [List.set_cons_zero, List.filter_cons_of_neg (by simpa using HIDN.out), this]
          obtain ⟨xa, xb, xc⟩ := x0
          obtain ⟨b8', cur8, hb8e, -, hbb8, -, -, -, hcur8⟩ := own_at HR12.out (by simp)
          subst hb8e
          have ht0 : w12.cell? ⟨b8', 0, none⟩ = some (.int .i64 xa) := by rw [hbb8.cell, hcur8 0 (by simp)]; rfl
          have hb8l := hbb8.lt
          have hab : w6.heap.size ≤ b8' := HA8.out b8' rfl
          have HF := Lib.hid hf; clear hf hx0 hrest
          have HW13 := Lib.hid hw13; clear hw13 hbb8 hcur8
          have HT0 := Lib.hid ht0; clear ht0
          go_wp2_with fail
          refine HF.out.mono ?_
          rintro e w13 ⟨rfl, hs13, hg13⟩
          have hne : ¬ ((Value.slice A6 (⟨xa, xb, xc⟩ :: R' : List Sv).length c6).ownBlock = some b8') := fun e => by
            have := HC6B.out b8' e; omega
          have t13 : w13.cell? ⟨b8', 0, none⟩ = some (.int .i64 xa) := by
            rw [World.cell?_of_block (w := w12) (hg13.block b8' hb8l hne)]; exact HT0.out
          have hb13 := hg13.below HB12.out (fun k _ hk => by have := own_base HC12.out.row k hk; omega) HB12.out.size
          have hwt := slots_Waiting B6 g' A6 c6 _ w13 hs13
          rw [HW13.out] at hwt
          have HWT := Lib.hid hwt; clear hwt hs13 hg13 hne HF
          have HB13 := Lib.hid hb13; clear hb13
          have hl1 : 0 < R'.length + 1 := by omega
          go_wp2_with fail
          refine HWT.out.mono ?_
          rintro e w14 ⟨rfl, hb14⟩
          have HB14 := Lib.hid (below_step HB13.out HB13.out.size hb14); clear hb14
          go_wp2_with fail
          go_ret
          exact ⟨by first | rfl | exact ret_bool (by rw [wrap64_id _ (by omega) (by omega)]; simp), HB14.out⟩
      · have htk := slots_Take_yes B6 g' A6 c6 L who k x w5 HSC.out hx hkx
        rw [HZ.out x (List.mem_of_getElem? hkx)] at htk
        have HTK := Lib.hid htk; clear htk
        have hkl2 : k < L.length := (List.getElem?_eq_some_iff.1 hkx).1
        obtain ⟨R, hR⟩ : ∃ R, R = L.eraseIdx k := ⟨_, rfl⟩
        have hRlen : L.length - 1 = R.length := by rw [hR, List.length_eraseIdx_of_lt hkl2]
        have hRlt : R.length < L.length := by omega
        have HRLEN := Lib.hid hRlen; clear hRlen
        have HR := Lib.hid hR; clear hR
        have hrz : ∀ x ∈ R, x.id = 0 := fun y hy => HZ.out y (by rw [HR.out] at hy; exact List.mem_of_mem_eraseIdx hy)
        have HRZ := Lib.hid hrz; clear hrz
        have hone := th_one HND.out hkx (by simpa using hxp)
        have HONE := Lib.hid hone; clear hone
        have HX := Lib.hid hx; clear hx hkx hxp
        go_wp2_with fail
        refine HTK.out.mono ?_
        rintro e w6 ⟨rfl, hsc6, hg6⟩
        have h56 : RowKit.Below B6 w5 w6 := hg6.below (Below.refl _ _) (fun z _ hz => by
          rcases hz with rfl | hz
          · have := HB6.out; omega
          · exact own_base HSC.out.row z hz) (by have := HB6.out; have := HB5.out.size; omega)
        have h46 : RowKit.Below w4.heap.size w4 w6 := by rw [HB6.out] at h56; exact h45.trans h56
        have hwas6 := (own_rd HWAS.out).below h46
        have hcl7 := slices_Clone_slot aw L.length dw _ w6 hwas6 (cellsOf_one Sv.cells_one L) (by omega)
        have HCL7 := Lib.hid hcl7; clear hcl7 hwas6
        have H46 := Lib.hid h46; clear h46 h56
        have hc6b : ∀ z, (Value.slice A6 R.length c6).ownBlock = some z → z < w6.heap.size := fun z hz => by
          have h := hsc6.row
          rw [← HR.out] at h
          exact (h.lt z hz).2
        have HC6B := Lib.hid hc6b; clear hc6b
        have hk6 : w.heap.size < w6.heap.size := by have := hg6.size; omega
        have k6 : Blk w6 w.heap.size 3 #[.int .i64 who] := HK1.out.below (below_step HB4.out hg4 H46.out) hkl
        have HK6 := Lib.hid k6; clear k6
        have HSC6 := Lib.hid hsc6; clear hsc6 hg6 HTK
        go_wp2_with fail
        refine HCL7.out.mono ?_
        rintro e w7 ⟨a7, d8, rfl, ho7, -, hb7⟩
        obtain ⟨b7, cur7, rfl, hb7b, hbb7, -, -, -, -⟩ := own_at ho7 (by omega)
        have hb7l := hbb7.lt
        have k7 := HK6.out.of_below hb7
        have eg : ∀ args w, (callFunc 57 args).run Tryz.prog w = .ok (.enter 57 args) w := enters_of Tryz.func57 (by kernel_rfl) rfl
        have hdel := slices_DeleteFunc_one (fun s => s.th == who) 57 #[.pointer (some ⟨w.heap.size, 0, none⟩)] eg w6.heap.size b7 d8 L w7 ho7 (by omega) (fun W x hW => by
          have hkW := k7.grew hW (by omega)
          refine (leave1 who w.heap.size W x hkW.lt (by rw [hkW.cell]; rfl)).mono ?_
          rintro e w' ⟨he, hb'⟩
          exact ⟨he, hb'⟩) k hkl2 HX.out HONE.out
        rw [HRLEN.out, ← HR.out] at hdel
        have HDEL := Lib.hid hdel; clear hdel eg
        have HB7 := Lib.hid hb7; clear hb7 HCL7 k7 ho7 hbb7
        go_wp2_with fail
        refine HDEL.out.mono ?_
        rintro e w8 ⟨rfl, hrest, hg8⟩
        have h78 : RowKit.Below w6.heap.size w7 w8 := hg8.below (Below.refl _ _) (fun z _ hz => by rw [hz]; exact hb7b) HB7.out.size
        have h68 : RowKit.Below w6.heap.size w6 w8 := HB7.out.trans h78
        have h48 := below_step H46.out H46.out.size h68
        have hc8 := HSC6.out.of_below h68
        rw [← HR.out] at hc8
        have hss8 := HS4.out.of_below h48
        have hwas8 := own_below HWAS.out h48
        have hB8g := below_step HB4.out hg4 h48
        have hB8 : RowKit.Below w.heap.size w w8 := ⟨hB8g.os.trans HB1.out.os, hB8g.tape.trans HB1.out.tape, hB8g.output.trans HB1.out.output, Nat.le_trans HB1.out.size hB8g.size, fun z hz => (hB8g.block z (by omega)).trans (HB1.out.block z hz)⟩
        have ha8 : ∀ z, (Value.slice (some ⟨b7, 0, none⟩) R.length d8).ownBlock = some z → w6.heap.size ≤ z := fun z hz => own_base hrest z hz
        have HC8 := Lib.hid hc8; clear hc8
        have HSS8 := Lib.hid hss8; clear hss8
        have HWAS8 := Lib.hid hwas8; clear hwas8
        have HREST := Lib.hid hrest; clear hrest
        have HB8 := Lib.hid hB8; clear hB8 hB8g
        have HA8 := Lib.hid ha8; clear ha8
        clear HDEL h68 h78 h48 hg8 h45
        have hR0 := HRZ.out
        have hallc := fun W (hb : RowKit.Below w8.heap.size w8 W) => slots_All B6 g' A6 c6 R W (HC8.out.of_below hb)
        have HALLC := Lib.hid hallc; clear hallc
        have hwtc := fun W (hb : RowKit.Below w8.heap.size w8 W) => slots_Waiting B6 g' A6 c6 R W (HC8.out.of_below hb)
        rw [waitS_all hR0] at hwtc
        have HWTC := Lib.hid hwtc; clear hwtc
        have halls := fun W (hb : RowKit.Below w8.heap.size w8 W) => slots_All g g A c L W (HSS8.out.of_below hb)
        have HALLS := Lib.hid halls; clear halls hR0
        have hRL : R.length ≤ 1000 := HC8.out.len
        have hLL : L.length ≤ 1000 := HSS8.out.len
        go_wp2_with fail
        refine (HALLC.out _ (Below.refl _ _)).mono ?_
        rintro e w9 ⟨a9, d9, rfl, ho9, hb9⟩
        have heq9 := slices_Equal_slot a9 (some ⟨b7, 0, none⟩) d9 d8 R R w9 (own_rw ho9) ((own_rw HREST.out).below hb9) (by omega) (by omega)
        rw [decide_eq_true rfl] at heq9
        have HEQ9 := Lib.hid heq9; clear heq9 ho9
        have HB9 := Lib.hid hb9; clear hb9 HALLC
        go_wp2_with fail
        refine HEQ9.out.mono ?_
        rintro e w9d ⟨rfl, q9, rfl⟩
        have HB9d := Lib.hid (below_drewN HB9.out q9); clear HEQ9 HB9
        go_wp2_with fail
        refine (HWTC.out _ HB9d.out).mono ?_
        rintro e w10 ⟨rfl, hb10⟩
        have HB10 := Lib.hid (below_step HB9d.out HB9d.out.size hb10); clear hb10 HB9d HWTC
        go_wp2_with fail
        refine (HALLS.out _ HB10.out).mono ?_
        rintro e w11 ⟨a11, d11, rfl, ho11, hb11⟩
        have heq11 := slices_Equal_slot a11 aw d11 dw L L w11 (own_rw ho11) ((own_rw HWAS8.out).below (below_step HB10.out HB10.out.size hb11)) (by omega) (by omega)
        rw [decide_eq_true rfl] at heq11
        have HEQ11 := Lib.hid heq11; clear heq11 ho11
        have HB11 := Lib.hid (below_step HB10.out HB10.out.size hb11); clear hb11 HALLS HB10
        go_wp2_with fail
        refine HEQ11.out.mono ?_
        rintro e w11d ⟨rfl, q11, rfl⟩
        have HB11d := Lib.hid (below_drewN HB11.out q11); clear HEQ11 HB11
        have hc12 := HC8.out.of_below HB11d.out
        have hr12 := own_below HREST.out HB11d.out
        have hb12 := below_step HB8.out HB8.out.size HB11d.out
        obtain ⟨w12, hw12⟩ : ∃ W, W = w11.drewN q11 := ⟨_, rfl⟩
        rw [← hw12] at hc12 hr12 hb12 ⊢
        have HW12 := Lib.hid hw12; clear hw12
        have HC12 := Lib.hid hc12; clear hc12
        have HR12 := Lib.hid hr12; clear hr12
        have HB12 := Lib.hid hb12; clear hb12
        have hsz12 : w8.heap.size ≤ w12.heap.size := by rw [HW12.out]; exact HB11d.out.size
        cases R with
        | nil =>
          have hf := slots_Fill_no B6 g' A6 c6 [] id w12 HC12.out (.inl (by decide))
          have HF := Lib.hid hf; clear hf
          go_wp2_with fail
          refine HF.out.mono ?_
          rintro e w13 ⟨rfl, hb13⟩
          have HB13 := Lib.hid (below_step HB12.out HB12.out.size hb13); clear hb13
          go_wp2_with fail
          go_ret
          exact ⟨rfl, HB13.out⟩
        | cons x0 R' =>
          have hR1 : R'.length ≤ 1000 := by have := HC8.out.len; simp at this; omega
          have hx0 : x0.id = 0 := HRZ.out x0 List.mem_cons_self
          have hf := slots_Fill_yes B6 g' A6 c6 (x0 :: R') id 0 x0 w12 HC12.out (fidx_cons_hit (by simp [hx0])) rfl HIDN.out
          have hrest : ∀ x ∈ R', x.id = 0 := fun x hx => HRZ.out x (List.mem_cons_of_mem _ hx)
          have hw13 : waitS ((x0 :: R').set 0 ⟨x0.th, x0.dl, id⟩) = R'.length := by
            have := waitS_all hrest
            unfold waitS at this ⊢
            rw [List.set_cons_zero, List.filter_cons_of_neg (by simpa using HIDN.out), this]
          obtain ⟨xa, xb, xc⟩ := x0
          obtain ⟨b8', cur8, hb8e, -, hbb8, -, -, -, hcur8⟩ := own_at HR12.out (by simp)
          obtain rfl : b7 = b8' := by injection hb8e with h; injection h
          have ht0 : w12.cell? ⟨b7, 0, none⟩ = some (.int .i64 xa) := by rw [hbb8.cell, hcur8 0 (by simp)]; rfl
          have hb8l := hbb8.lt
          have hab : w6.heap.size ≤ b7 := HA8.out _ rfl
          have HF := Lib.hid hf; clear hf hx0 hrest
          have HW13 := Lib.hid hw13; clear hw13 hbb8 hcur8
          have HT0 := Lib.hid ht0; clear ht0
          go_wp2_with fail
          refine HF.out.mono ?_
          rintro e w13 ⟨rfl, hs13, hg13⟩
          have hne : ¬ ((Value.slice A6 (⟨xa, xb, xc⟩ :: R' : List Sv).length c6).ownBlock = some b7) := fun e => by
            have := HC6B.out b7 e; omega
          have t13 : w13.cell? ⟨b7, 0, none⟩ = some (.int .i64 xa) := by
            rw [World.cell?_of_block (w := w12) (hg13.block b7 hb8l hne)]; exact HT0.out
          have hb13 := hg13.below HB12.out (fun k _ hk => by have := own_base HC12.out.row k hk; omega) HB12.out.size
          have hwt := slots_Waiting B6 g' A6 c6 _ w13 hs13
          rw [HW13.out] at hwt
          have HWT := Lib.hid hwt; clear hwt hs13 hg13 hne HF
          have HB13 := Lib.hid hb13; clear hb13
          have hl1 : 0 < R'.length + 1 := by omega
          go_wp2_with fail
          refine HWT.out.mono ?_
          rintro e w14 ⟨rfl, hb14⟩
          have HB14 := Lib.hid (below_step HB13.out HB13.out.size hb14); clear hb14
          go_wp2_with fail
          go_ret
          exact ⟨by first | rfl | exact ret_bool (by rw [wrap64_id _ (by omega) (by omega)]; simp), HB14.out⟩
end Go.Proofs.YtonfaojmphidpaaGreatDoor
