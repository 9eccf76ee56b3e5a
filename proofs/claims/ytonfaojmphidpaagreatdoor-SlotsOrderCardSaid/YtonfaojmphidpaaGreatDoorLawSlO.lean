/- The walk of layer 11's law SlotsOrder. -/
import Derived.Test.YtonfaojmphidpaaGreatDoorSlotsP
namespace Go.Proofs.YtonfaojmphidpaaGreatDoor
open Go.RowKit
set_option linter.unusedVariables false
set_option linter.unusedSimpArgs false

set_option maxRecDepth 100000 in
set_option maxHeartbeats 4000000 in
theorem law_SlotsOrder (a : Option Addr) (len cap : Nat) (zs : List Int) (a2 : Option Addr) (len2 cap2 : Nat) (ids : List Int) (w : World) (h1 : Nums .i64 w a len cap zs) (h2 : Nums .u64 w a2 len2 cap2 ids) :
    Calls Tryz.prog 6 #[.slice a len cap, .slice a2 len2 cap2] w fun e w' => e = .returned (.bool true) ∧ RowKit.Below w.heap.size w w' := by
  obtain ⟨rfl, hn1, hwf1, hs1⟩ := h1
  obtain ⟨rfl, hn2, hwf2, hs2⟩ := h2
  by_cases hbig : 60 < zs.length
  · clear hwf1 hs1 hwf2 hs2
    go_enter Tryz.func6, Tryz.ntmps6
    go_wp2_with (go_at_call 28; refine (law11_awake _).mono ?_; rintro e w' ⟨rfl, hb⟩)
    go_ret
    exact ⟨rfl, hb⟩
  by_cases hbig2 : 60 < ids.length
  · clear hwf1 hs1 hwf2 hs2
    go_enter Tryz.func6, Tryz.ntmps6
    go_wp2_with (go_at_call 28; refine (law11_awake _).mono ?_; rintro e w' ⟨rfl, hb⟩)
    go_ret
    exact ⟨rfl, hb⟩
  have HWF2 := Lib.hid hwf2; clear hwf2 hwf1
  have HS1 := Lib.hid hs1; clear hs1
  have HS2 := Lib.hid hs2; clear hs2
  go_enter Tryz.func6, Tryz.ntmps6
  go_wp2_with fail
  refine (law11_awake _).mono ?_
  rintro e w1 ⟨rfl, hb1⟩
  have HB1 := Lib.hid hb1; clear hb1
  have hw1 := HB1.out.size
  go_wp2_with fail
  refine (slots_New _).mono ?_
  rintro e w2 ⟨rfl, rfl⟩
  have hs0 := Sk.new w1
  have hB2 := HB1.out.alloc hw1 (.cells #[.slice none 0 0] 141)
  have hsz2 := size_alloc w1 (.cells #[.slice none 0 0] 141)
  generalize w1.alloc (.cells #[.slice none 0 0] 141) = w2 at *
  generalize hg : w1.heap.size = g at *
  have hgw : w.heap.size ≤ g := hw1
  have hgs : g ≤ w2.heap.size := by omega
  have HS0 := Lib.hid hs0; clear hs0
  have HB2 := Lib.hid hB2; clear hB2
  clear hsz2
  go_wp2_with fail
  go_loopg [6, 32] zs.length (fun gh v iv wr => ∃ (k : Nat) (row : List Int) (A1 : Option Addr) (c1 : Nat) (A : Option Addr) (c : Nat), gh = zs.length - k ∧ k ≤ zs.length ∧ iv = .int .i64 k ∧ row.length ≤ k ∧ v = .slice A1 row.length c1 ∧ wr.ownsRow g 3 1 (.slice A1 row.length c1) row.length (nums .i64 row) ∧ Sk wr g g A c (mkL row []) ∧ RowKit.Below w.heap.size w wr ∧ g ≤ wr.heap.size)
  case atStart => exact ⟨0, [], none, 0, none, 0, rfl, by omega, rfl, by simp, rfl, World.ownsRow_nil _ _ _ _, HS0.out, HB2.out, hgs⟩
  case round =>
    clear HS0 HB2
    obtain ⟨k, row, A1, c1, A, c, rfl, hk, rfl, hrl, rfl, ho, hS, hB, hgr⟩ := hrel
    have HO := Lib.hid ho; clear ho
    have HS := Lib.hid hS; clear hS
    have HB := Lib.hid hB; clear hB
    by_cases hlt : k < zs.length
    · obtain ⟨b, off, rfl, hbs, hc⟩ := HS1.out.at_ (by omega)
      have c0 := (HB.out.cell (p := ⟨b, off + k, none⟩) hbs).trans (hc k hlt)
      clear hc
      generalize zs.getD k 0 = x at *
      have hml : (mkL row []).length = row.length := mkL_length row []
      by_cases hx : 0 ≤ fidx (fun s : Sv => s.th == x) (mkL row [])
      · have hp := slots_Park_had g g A c (mkL row []) x 1 wr HS.out hx
        have HP := Lib.hid hp; clear hp hx hml
        go_wp2_with (go_at_call 30; refine HP.out.mono ?_; rintro e w3 ⟨rfl, hb3⟩)
        go_roundg (zs.length - (k + 1))
        case measure => omega
        case rel => exact ⟨k + 1, row, A1, c1, A, c, rfl, by omega, by go_num, by omega, rfl, own_below HO.out hb3, HS.out.of_below hb3, below_step HB.out HB.out.size hb3, by have := hb3.size; omega⟩
      · have hp := slots_Park_new g g A c (mkL row []) x 1 wr HS.out hgr (by omega) (by omega)
        have HML := Lib.hid hml; clear hml hx
        have HP := Lib.hid hp; clear hp
        go_wp2_with fail
        refine HP.out.mono ?_
        rintro e w3 ⟨rfl, hto⟩
        have hb3 := hto.below HS.out HB.out hgw hgw HB.out.size
        obtain ⟨A3, c3, hS3, hg3, -⟩ := hto
        have ho3 := own_keepSk HS.out HO.out (by decide) (by decide) hg3
        rw [← mkL_snoc] at hS3
        have hgr3 : g ≤ w3.heap.size := by have := hg3.size; omega
        have HS3 := Lib.hid hS3; clear hS3
        have HO3 := Lib.hid ho3; clear ho3
        have HB3 := Lib.hid hb3; clear hb3 hg3
        go_wp2_with (at_builtin; refine app_one w3 rfl (.tmp 40) (.tmp 42) 53 rfl g 3 (.int .i64 0) 1 8 Tryz.underlying53 Tryz.infoI rfl (by decide) (.slice A1 row.length c1) row.length _ rfl HO3.out [.int .i64 x] rfl rfl (by simp [Value.oneCell']) (by omega) (by omega) hgr3 ?_; intro A4 c4 w4 h5 h6 h7)
        have e1 : (row ++ [x]).length = row.length + 1 := by simp
        have e2 : nums .i64 (row ++ [x]) = nums .i64 row ++ [.int .i64 x] := by simp [nums]
        go_roundg (zs.length - (k + 1))
        case measure => omega
        case rel => exact ⟨k + 1, row ++ [x], A4, c4, A3, c3, rfl, by omega, by go_num, by rw [e1]; omega, by rw [e1], by rw [e1, e2]; exact h5, HS3.out.keepO HO3.out (by decide) (by decide) h6, HB3.out.grown h6 HB3.out.size (fun z hz => by have := own_base HO3.out z hz; omega), by have := h6.size; omega⟩
    · have hkz : row.length ≤ 60 := by omega
      go_wp2_with fail
      clear hlt hrl hk
      go_loopg [9, 47] ids.length (fun gh v iv wx => ∃ (j : Nat) (hs : List Int) (A2 : Option Addr) (c2 : Nat) (A' : Option Addr) (c' : Nat), gh = ids.length - j ∧ j ≤ ids.length ∧ iv = .int .i64 j ∧ hs.length ≤ j ∧ hs.length ≤ row.length ∧ (∀ x ∈ hs, x ≠ 0) ∧ v = .slice A2 hs.length c2 ∧ wx.ownsRow g 28 1 (.slice A2 hs.length c2) hs.length (nums .u64 hs) ∧ wx.ownsRow g 3 1 (.slice A1 row.length c1) row.length (nums .i64 row) ∧ Sk wx g g A' c' (mkL row hs) ∧ RowKit.Below w.heap.size w wx ∧ g ≤ wx.heap.size)
      case atStart => exact ⟨0, [], none, 0, A, c, rfl, by omega, rfl, by simp, by simp, (fun x hx => by cases hx), rfl, World.ownsRow_nil _ _ _ _, HO.out, HS.out, HB.out, hgr⟩
      case round =>
        clear HO HS HB hgr
        obtain ⟨j, hs, A2, c2, A', c', rfl, hj, rfl, hhl, hhr, hnz, rfl, ho2, ho, hS, hB, hgr⟩ := hrel
        have HO := Lib.hid ho; clear ho
        have HO2 := Lib.hid ho2; clear ho2
        have HS := Lib.hid hS; clear hS
        have HB := Lib.hid hB; clear hB
        have HNZ := Lib.hid hnz; clear hnz
        have hml : (mkL row hs).length = row.length := mkL_length row hs
        have HML := Lib.hid hml; clear hml
        by_cases hjl : j < ids.length
        · obtain ⟨b, off, rfl, hbs, hc⟩ := HS2.out.at_ (by omega)
          have c0 := (HB.out.cell (p := ⟨b, off + j, none⟩) hbs).trans (hc j hjl)
          clear hc
          have hxr := bounds_u64 (HWF2.out (ids.getD j 0) (by rw [List.getD_eq_getElem?_getD, List.getElem?_eq_getElem hjl]; exact List.getElem_mem hjl))
          generalize ids.getD j 0 = x at *
          by_cases hx0 : x = 0
          · subst hx0
            have hf := slots_Fill_no g g A' c' (mkL row hs) 0 wr HS.out (.inr rfl)
            have HF := Lib.hid hf; clear hf
            go_wp2_with fail
            refine HF.out.mono ?_
            rintro e w3 ⟨rfl, hb3⟩
            have HB3 := Lib.hid hb3; clear hb3
            go_wp2_with fail
            go_roundg (ids.length - (j + 1))
            case measure => omega
            case rel => exact ⟨j + 1, hs, A2, c2, A', c', rfl, by omega, by go_num, by omega, hhr, HNZ.out, rfl, own_below HO2.out HB3.out, own_below HO.out HB3.out, HS.out.of_below HB3.out, below_step HB.out HB.out.size HB3.out, by have := HB3.out.size; omega⟩
          · have hx0' : (x != 0) = true := by simpa using hx0
            by_cases hfull : hs.length < row.length
            · obtain ⟨m1, m2, m3⟩ := mkL_fill row hs HNZ.out hfull x
              have hf := slots_Fill_yes g g A' c' (mkL row hs) x hs.length _ wr HS.out m1 m2 hx0
              dsimp only at hf
              rw [m3] at hf
              have HF := Lib.hid hf; clear hf m1 m2 m3
              have HX0 := Lib.hid hx0; clear hx0
              obtain ⟨b5, off5, hA1, hb5, hc5⟩ := (show Sl .i64 wr A1 c1 row from own_rd HO.out).at_ (by omega)
              have cr := hc5 hs.length hfull
              have HCR := Lib.hid cr; clear cr hc5
              generalize row.getD hs.length 0 = r at *
              have hfi : (hs.length : Int) < (row.length : Int) := by omega
              go_wp2_with fail
              refine HF.out.mono ?_
              rintro e w3 ⟨rfl, hS3, hg3⟩
              have hg3' : Grew wr w3 (fun k => k = g ∨ (Value.slice A' (mkL row hs).length c').ownBlock = some k) := hg3.mono (fun k _ hk => .inr hk)
              have ho3 := own_keepSk HS.out HO.out (by decide) (by decide) hg3'
              have ho23 := own_keepSk HS.out HO2.out (by decide) (by decide) hg3'
              have hb3 := hg3.below HB.out (fun k _ hk => by have := own_base HS.out.row k hk; omega) HB.out.size
              have hgr3 : g ≤ w3.heap.size := by have := hg3.size; omega
              subst hA1
              have c5 : w3.cell? ⟨b5, off5 + hs.length, none⟩ = some (.int .i64 r) := by
                have hne := own_apart2 HO.out HS.out.row (by decide) (k := b5) rfl
                rw [World.cell?_of_block (w := wr) (hg3.block b5 hb5 hne)]; exact HCR.out
              have HS3 := Lib.hid hS3; clear hS3 hg3 hg3'
              have HO3 := Lib.hid ho3; clear ho3
              have HO23 := Lib.hid ho23; clear ho23
              have HB3 := Lib.hid hb3; clear hb3
              go_wp2_with (at_builtin; refine app_one w3 rfl (.tmp 81) (.tmp 83) 39 rfl g 28 (.int .u64 0) 1 8 Tryz.underlying39 Tryz.infoU rfl (by decide) (.slice A2 hs.length c2) hs.length _ rfl HO23.out [.int .u64 x] rfl rfl (by simp [Value.oneCell']) (by omega) (by omega) hgr3 ?_; intro A4 c4 w4 h5 h6 h7)
              have e1 : (hs ++ [x]).length = hs.length + 1 := by simp
              have e2 : nums .u64 (hs ++ [x]) = nums .u64 hs ++ [.int .u64 x] := by simp [nums]
              go_roundg (ids.length - (j + 1))
              case measure => omega
              case rel =>
                refine ⟨j + 1, hs ++ [x], A4, c4, A', c', rfl, by omega, by go_num, by rw [e1]; omega, by rw [e1]; omega, fun y hy => ?_, by rw [e1], by rw [e1, e2]; exact h5, ?_, ?_, HB3.out.grown h6 HB3.out.size (fun z hz => by have := own_base HO23.out z hz; omega), by have := h6.size; omega⟩
                · rcases List.mem_append.1 hy with hy | hy
                  · exact HNZ.out y hy
                  · rw [List.mem_singleton.1 hy]; exact HX0.out
                · exact own_grew HO3.out (Grew.of_grown (S := fun z => (Value.slice A2 hs.length c2).ownBlock = some z) h6 (fun z hz => hz)) (fun z hz hz' => own_apart2 HO3.out HO23.out (by decide) hz hz')
                · exact HS3.out.keepO HO23.out (by decide) (by decide) h6
            · have hf := slots_Fill_no g g A' c' (mkL row hs) x wr HS.out (.inl (mkL_full row hs HNZ.out (by omega)))
              have HF := Lib.hid hf; clear hf
              have hfi : ¬ (hs.length : Int) < (row.length : Int) := by omega
              go_wp2_with fail
              refine HF.out.mono ?_
              rintro e w3 ⟨rfl, hb3⟩
              have HB3 := Lib.hid hb3; clear hb3
              go_wp2_with fail
              go_roundg (ids.length - (j + 1))
              case measure => omega
              case rel => exact ⟨j + 1, hs, A2, c2, A', c', rfl, by omega, by go_num, by omega, hhr, HNZ.out, rfl, own_below HO2.out HB3.out, own_below HO.out HB3.out, HS.out.of_below HB3.out, below_step HB.out HB.out.size HB3.out, by have := HB3.out.size; omega⟩
        · have hs60 : hs.length ≤ 60 := by omega
          go_wp2_with fail
          clear hjl hhl hj
          go_loopg [88] row.length (fun gh iv wx => ∃ (i : Nat) (A3 : Option Addr) (c3 : Nat), gh = row.length - i ∧ i ≤ row.length ∧ iv = .int .i64 i ∧ wx.ownsRow g 28 1 (.slice A2 hs.length c2) hs.length (nums .u64 hs) ∧ wx.ownsRow g 3 1 (.slice A1 row.length c1) row.length (nums .i64 row) ∧ Sk wx g g A3 c3 ((mkL row hs).drop i) ∧ RowKit.Below w.heap.size w wx ∧ g ≤ wx.heap.size)
          case atStart => exact ⟨0, A', c', rfl, by omega, rfl, HO2.out, HO.out, HS.out, HB.out, hgr⟩
          case round =>
            clear HO HO2 HS HB hgr
            obtain ⟨i, A3, c3, rfl, hi, rfl, ho2, ho, hS, hB, hgr⟩ := hrel
            have HO := Lib.hid ho; clear ho
            have HO2 := Lib.hid ho2; clear ho2
            have HS := Lib.hid hS; clear hS
            have HB := Lib.hid hB; clear hB
            by_cases hil : i < row.length
            · obtain ⟨b5, off5, hA1, hb5, hc5⟩ := (show Sl .i64 wr A1 c1 row from own_rd HO.out).at_ (by omega)
              subst hA1
              have c0 := hc5 i hil
              clear hc5
              have hd := mkL_drop row hs i hil
              have htk := slots_Take_yes g g A3 c3 ((mkL row hs).drop i) (row.getD i 0) 0 ⟨row.getD i 0, 1, hs.getD i 0⟩ wr HS.out (by rw [hd]; exact fidx_cons_hit (by simp)) (by rw [hd]; rfl)
              dsimp only at htk
              have her : ((mkL row hs).drop i).eraseIdx 0 = (mkL row hs).drop (i + 1) := by rw [hd]; rfl
              rw [her] at htk
              have HTK := Lib.hid htk; clear htk hd her
              generalize row.getD i 0 = r at *
              by_cases hih : i < hs.length
              · obtain ⟨b6, off6, hA2, hb6, hc6⟩ := (show Sl .u64 wr A2 c2 hs from own_rd HO2.out).at_ (by omega)
                have c6 := hc6 i hih
                have HC6 := Lib.hid c6; clear c6 hc6
                generalize hs.getD i 0 = id at *
                go_wp2_with fail
                refine HTK.out.mono ?_
                rintro e w3 ⟨rfl, hS3, hg3⟩
                have ho3 := own_keepSk HS.out HO.out (by decide) (by decide) hg3
                have ho23 := own_keepSk HS.out HO2.out (by decide) (by decide) hg3
                have hb3 := hg3.below HB.out (fun k _ hk => by
                  rcases hk with rfl | hk
                  · exact hgw
                  · have := own_base HS.out.row k hk; omega) HB.out.size
                have hgr3 : g ≤ w3.heap.size := by have := hg3.size; omega
                subst hA2
                have c7 : w3.cell? ⟨b6, off6 + i, none⟩ = some (.int .u64 id) := by
                  have hne : ¬ (b6 = g ∨ (Value.slice A3 ((mkL row hs).drop i).length c3).ownBlock = some b6) := by
                    rintro (e | e)
                    · subst e; exact own_apart HO2.out HS.out.blk (by decide) rfl
                    · exact own_apart2 HO2.out HS.out.row (by decide) (k := b6) rfl e
                  rw [World.cell?_of_block (w := wr) (hg3.block b6 hb6 hne)]; exact HC6.out
                have HS3 := Lib.hid hS3; clear hS3 hg3
                have HO3 := Lib.hid ho3; clear ho3
                have HO23 := Lib.hid ho23; clear ho23
                have HB3 := Lib.hid hb3; clear hb3
                go_wp2_with fail
                go_roundg (row.length - (i + 1))
                case measure => omega
                case rel => exact ⟨i + 1, A3, c3, rfl, by omega, by go_num, HO23.out, HO3.out, HS3.out, HB3.out, hgr3⟩
              · have hz : hs.getD i 0 = 0 := by rw [List.getD_eq_getElem?_getD, List.getElem?_eq_none (by omega)]; rfl
                rw [hz] at HTK
                clear hz
                go_wp2_with fail
                refine HTK.out.mono ?_
                rintro e w3 ⟨rfl, hS3, hg3⟩
                have ho3 := own_keepSk HS.out HO.out (by decide) (by decide) hg3
                have ho23 := own_keepSk HS.out HO2.out (by decide) (by decide) hg3
                have hb3 := hg3.below HB.out (fun k _ hk => by
                  rcases hk with rfl | hk
                  · exact hgw
                  · have := own_base HS.out.row k hk; omega) HB.out.size
                have hgr3 : g ≤ w3.heap.size := by have := hg3.size; omega
                have HS3 := Lib.hid hS3; clear hS3 hg3
                have HO3 := Lib.hid ho3; clear ho3
                have HO23 := Lib.hid ho23; clear ho23
                have HB3 := Lib.hid hb3; clear hb3
                go_wp2_with fail
                go_roundg (row.length - (i + 1))
                case measure => omega
                case rel => exact ⟨i + 1, A3, c3, rfl, by omega, by go_num, HO23.out, HO3.out, HS3.out, HB3.out, hgr3⟩
            · have hie : (mkL row hs).drop i = [] := List.drop_of_length_le (by rw [HML.out]; omega)
              have hS' := HS.out
              rw [hie] at hS'
              have hall := slots_All g g A3 c3 [] wr hS'
              have hwt := fun w' (hb : RowKit.Below wr.heap.size wr w') => slots_Waiting g g A3 c3 [] w' (hS'.of_below hb)
              have HALL := Lib.hid hall; clear hall
              have HWT := Lib.hid hwt; clear hwt hS' hie
              have hw0 : (waitS [] : Int) = 0 := rfl
              go_wp2_with fail
              refine HALL.out.mono ?_
              rintro e w3 ⟨a5, c5, rfl, -, hb3⟩
              have HB3 := Lib.hid hb3; clear hb3
              go_wp2_with fail
              refine (HWT.out _ HB3.out).mono ?_
              rintro e w4 ⟨rfl, hb4⟩
              have HB4 := Lib.hid (below_step (below_step HB.out HB.out.size HB3.out) (by have := HB3.out.size; have := HB.out.size; omega) hb4); clear hb4
              go_wp2_with fail
              go_ret
              exact ⟨rfl, HB4.out⟩
end Go.Proofs.YtonfaojmphidpaaGreatDoor
