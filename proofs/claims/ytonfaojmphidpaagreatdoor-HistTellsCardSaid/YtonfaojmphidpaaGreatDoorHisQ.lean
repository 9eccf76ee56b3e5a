/- Chapter 9: hist's Pending. -/
import Derived.Test.YtonfaojmphidpaaGreatDoorHisR
namespace Go.Proofs.YtonfaojmphidpaaGreatDoor
open Go.RowKit Go.Maps
set_option linter.unusedVariables false
set_option linter.unusedSimpArgs false

theorem cnt_upd (L : List Ev) (kk : Nat) (y : Ev) (hy : L[kk]? = some y) (d : Int) (hd : ∀ t, evD y t = if t = y.thread then d else 0) : updC (cntL (L.take kk)) y.thread (cntL (L.take kk) y.thread + d) = cntL (L.take (kk + 1)) := by
  funext t
  rw [take_snoc2 hy, cntL_snoc, hd]
  unfold updC
  by_cases e : t = y.thread
  · subst e; rw [if_pos rfl, if_pos rfl]
  · rw [if_neg e, if_neg e, Int.add_zero]
theorem cnt_same (L : List Ev) (kk : Nat) (y : Ev) (hy : L[kk]? = some y) (h0 : y.kind ≠ 0) (h2 : y.kind ≠ 2) : cntL (L.take (kk + 1)) = cntL (L.take kk) ∧ keyL (L.take (kk + 1)) [] = keyL (L.take kk) [] := by
  constructor
  · funext t
    rw [take_snoc2 hy, cntL_snoc]
    unfold evD; rw [if_neg h0, if_neg h2]; simp
  · rw [take_snoc2 hy, keyL_snoc, if_neg (by rintro (h | h); exact h0 h; exact h2 h)]
theorem key_upd (L : List Ev) (kk : Nat) (y : Ev) (hy : L[kk]? = some y) (h : y.kind = 0 ∨ y.kind = 2) : keyL (L.take (kk + 1)) [] = addKey (keyL (L.take kk) []) y.thread := by
  rw [take_snoc2 hy, keyL_snoc, if_pos h]
/-- What the call has made. -/
structure PeIn (w wr : World) (m : Nat) (a : Option Addr) (c : Nat) (L M : List Ev) : Prop where
  mi : MI wr m (keyL M []) (cntL M)
  rw_ : Rw Ev.cells 6 wr a c L
  bl : RowKit.Below w.heap.size w wr
theorem PeIn.of_below {w wr w' : World} {m : Nat} {a : Option Addr} {c : Nat} {L M : List Ev} (h : PeIn w wr m a c L M) (hb : RowKit.Below wr.heap.size wr w') : PeIn w w' m a c L M := ⟨h.mi.of_below hb, h.rw_.below hb, below_step h.bl h.bl.size hb⟩

set_option maxRecDepth 100000 in
set_option maxHeartbeats 8000000 in
theorem hist_Pending (B g : Nat) (s : Int) (A : Option Addr) (c : Nat) (L : List Ev) (w : World) (h : Hs w B g s A c L) (hwf : ∀ x ∈ L, In63 x.thread) :
    Calls Tryz.prog 70 #[.pointer (some ⟨g, 0, none⟩)] w fun e w' => ∃ a' c', e = .returned (.slice a' (pendF L L []).length c') ∧ Sl .i64 w' a' c' (pendF L L []) ∧ RowKit.Below w.heap.size w w' := by
  have hmm := @run_makeMap Tryz.prog
  have hlen := h.len
  have hlt := h.blk.lt
  have hal := (RowKit.Below.refl w.heap.size w).alloc (Nat.le_refl _) (.map #[] 0)
  have hall := hist_All2 B g s A c L _ (h.of_below hal)
  have hmade := MI.made w
  have HALL := Lib.hid hall; clear hall
  have HAL := Lib.hid hal; clear hal
  have HMADE := Lib.hid hmade; clear hmade
  have HWF := Lib.hid hwf; clear hwf h
  go_enter Tryz.func70, Tryz.ntmps70
  go_wp2_with fail
  refine HALL.out.mono ?_
  rintro e w2 ⟨a6, c6, rfl, ho6, hb6⟩
  have HR : Hid (PeIn w w2 w.heap.size a6 c6 L []) := ⟨HMADE.out.of_below hb6, own_rw ho6, below_step HAL.out HAL.out.size hb6⟩
  have hm2 : w.heap.size < w2.heap.size := HR.out.mi.lt
  clear ho6 hb6 HALL HAL HMADE hmm
  go_wp2_with fail
  go_loopg [13] L.length (fun gh iv wr => ∃ kk : Nat, gh = L.length - kk ∧ kk ≤ L.length ∧ iv = .int .i64 kk ∧ Hid (PeIn w wr w.heap.size a6 c6 L (L.take kk)))
  case atStart => exact ⟨0, rfl, by omega, rfl, HR⟩
  case round =>
    clear HR
    obtain ⟨kk, rfl, hkk, rfl, HR⟩ := hrel
    by_cases hltk : kk < L.length
    · obtain ⟨b, off, rfl, hb, hc⟩ := HR.out.rw_.at_ Ev.cells_length (by omega)
      obtain ⟨y, hy⟩ : ∃ y, L[kk]? = some y := ⟨_, List.getElem?_eq_getElem hltk⟩
      have hyw := HWF.out y (List.mem_of_getElem? hy)
      have hcb := cntL_bound (L.take kk) y.thread
      have hkl := keyL_len (L.take kk) []
      have htl : (L.take kk).length ≤ 1000 := by have := List.length_take_le kk L; omega
      have c0 := hc kk _ hy 0 _ rfl
      have c1 := hc kk _ hy 1 _ rfl
      have c2 := hc kk _ hy 2 _ rfl
      have c3 := hc kk _ hy 3 _ rfl
      have c4 := hc kk _ hy 4 _ rfl
      have c5 := hc kk _ hy 5 _ rfl
      simp only [← Nat.add_assoc, Nat.add_zero] at c0 c1 c2 c3 c4 c5
      clear hc
      have hu1 := cnt_upd L kk y hy 1
      have hu2 := cnt_upd L kk y hy (-1)
      have hu3 := cnt_same L kk y hy
      have hu4 := key_upd L kk y hy
      have HU1 := Lib.hid hu1; clear hu1
      have HU2 := Lib.hid hu2; clear hu2
      have HU3 := Lib.hid hu3; clear hu3
      have HU4 := Lib.hid hu4; clear hu4 hy
      obtain ⟨y0, t, y2, y3, y4, y5⟩ := y
      dsimp only at *
      have HA := Lib.hid (Blk.new wr 108 #[.int .u64 y0, .int .i64 t, .int .i64 y2, .int .i64 y3, .int .u64 y4, .int .i64 y5])
      have HR1 := Lib.hid (HR.out.of_below ((RowKit.Below.refl wr.heap.size wr).alloc (Nat.le_refl _) (.cells #[.int .u64 y0, .int .i64 t, .int .i64 y2, .int .i64 y3, .int .u64 y4, .int .i64 y5] 108)))
      go_upto_region 5 with fail
      generalize wr.alloc (.cells #[.int .u64 y0, .int .i64 t, .int .i64 y2, .int .i64 y3, .int .u64 y4, .int .i64 y5] 108) = W at *
      clear c0 c1 c2 c3 c4 c5 HR hb
      generalize wr.heap.size = av at *
      have x1 := HA.out.cell 1
      have x2 := HA.out.cell 2
      have xl := HA.out.lt
      simp only [List.getElem?_toArray, List.getElem?_cons_zero, List.getElem?_cons_succ] at x1 x2
      have hkey : keyOf Tryz.prog 3 (.int .i64 t) = some (KI t) := keyOf_int_mk Tryz.underlying3 hyw.wf
      have hlook := HR1.out.mi.look hyw
      have hmlt := HR1.out.mi.lt
      have HNO := Lib.hid (fun off => HR1.out.mi.no_cell off)
      have hml : (keyL (L.take kk) []).length < maxLen := by unfold maxLen; simp at hkl; omega
      obtain ⟨D, hown, hT⟩ := HR1.out.mi
      have HT := Lib.hid hT; clear hT
      generalize hc : cntL (L.take kk) t = ct at *
      have HCT := Lib.hid hc; clear hc
      by_cases e0 : y2 = 0
      · subst e0
        have hw1 : IntKind.i64.wrap (ct + 1) = ct + 1 := by rw [IntKind.wrap_i64]; omega
        have hcw : (Lit.int .i64 (ct + 1)).wf = true := In63.wf ⟨by omega, by omega⟩
        have HM1 := Lib.hid (fun (w6 : World) (h6 : w6.ownsMap Tryz.prog 3 (plainElem Tryz.prog 3) w.heap.size ((keyL (L.take kk) []).length + 1) (D.put (KI t) (.lit (.int .i64 (ct + 1))))) => (show MI w6 w.heap.size (keyL (L.take (kk + 1)) []) (cntL (L.take (kk + 1))) from by
          have := MI.put HT.out h6
          rw [HU4.out (.inl rfl), ← HU1.out (fun t' => by unfold evD; simp [eq_comm])]
          exact this))
        go_wp2_with (at_mapUpdate; refine wpList_mapUpdate_in _ rfl _ _ _ 153 rfl 3 3 lawI Tryz.underlying153 _ w.heap.size _ D rfl hown hml _ _ _ rfl rfl hkey _ [] (plainElem_int Tryz.underlying3 hcw) ?_; intro w6 hown6 hturn6)
        have hg6 := hturn6.grown
        have HR6 : Hid (PeIn w w6 w.heap.size (some ⟨b, off, none⟩) c6 L (L.take (kk + 1))) := ⟨HM1.out w6 hown6, Rd.keptM (by decide) HR1.out.rw_ HNO.out hg6, HR1.out.bl.grown hg6 HR1.out.bl.size (fun z hz => by cases hz; exact Nat.le_refl _)⟩
        clear hown6 hturn6 hg6
        go_wp2_with fail
        go_roundg (L.length - (kk + 1))
        case measure => omega
        case rel => exact ⟨kk + 1, rfl, by omega, by go_num, HR6⟩
      · have q0 : (y2 == 0) = false := by simpa using e0
        by_cases e2 : y2 = 2
        · subst e2
          have hw1 : IntKind.i64.wrap (ct - 1) = ct - 1 := by rw [IntKind.wrap_i64]; omega
          have hcw : (Lit.int .i64 (ct - 1)).wf = true := In63.wf ⟨by omega, by omega⟩
          have HM1 := Lib.hid (fun (w6 : World) (h6 : w6.ownsMap Tryz.prog 3 (plainElem Tryz.prog 3) w.heap.size ((keyL (L.take kk) []).length + 1) (D.put (KI t) (.lit (.int .i64 (ct - 1))))) => (show MI w6 w.heap.size (keyL (L.take (kk + 1)) []) (cntL (L.take (kk + 1))) from by
            have := MI.put HT.out h6
            rw [HU4.out (.inr rfl), ← HU2.out (fun t' => by unfold evD; simp [eq_comm])]
            exact this))
          clear e0 q0
          go_wp2_with (at_mapUpdate; refine wpList_mapUpdate_in _ rfl _ _ _ 153 rfl 3 3 lawI Tryz.underlying153 _ w.heap.size _ D rfl hown hml _ _ _ rfl rfl hkey _ [] (plainElem_int Tryz.underlying3 hcw) ?_; intro w6 hown6 hturn6)
          have hg6 := hturn6.grown
          have HR6 : Hid (PeIn w w6 w.heap.size (some ⟨b, off, none⟩) c6 L (L.take (kk + 1))) := ⟨HM1.out w6 hown6, Rd.keptM (by decide) HR1.out.rw_ HNO.out hg6, HR1.out.bl.grown hg6 HR1.out.bl.size (fun z hz => by cases hz; exact Nat.le_refl _)⟩
          clear hown6 hturn6 hg6
          go_wp2_with fail
          go_roundg (L.length - (kk + 1))
          case measure => omega
          case rel => exact ⟨kk + 1, rfl, by omega, by go_num, HR6⟩
        · have q2 : (y2 == 2) = false := by simpa using e2
          have h3 := HU3.out e0 e2
          have HR6 : Hid (PeIn w W w.heap.size (some ⟨b, off, none⟩) c6 L (L.take (kk + 1))) := ⟨by rw [h3.1, h3.2]; exact HR1.out.mi, HR1.out.rw_, HR1.out.bl⟩
          clear h3 e0 e2
          go_wp2
          go_roundg (L.length - (kk + 1))
          case measure => omega
          case rel => exact ⟨kk + 1, rfl, by omega, by go_num, HR6⟩
    · have : kk = L.length := by omega
      subst this
      have hr := HR.out
      rw [List.take_length] at hr
      have HR := Lib.hid hr; clear hr
      have hkl := keyL_len L []
      obtain ⟨D, hown, hT⟩ := HR.out.mi
      have hms := hT.size_
      have hs := Tryz.sortedII_calls w.heap.size _ D _ wr hown (by unfold maxLen; simp at hkl; omega) (by simp at hkl; omega)
      have hk := Tryz.keysII_calls (some w.heap.size) wr
      have HS := Lib.hid hs; clear hs
      have HK := Lib.hid hk; clear hk
      have HKW := Lib.hid (intKeys_wf hown Tryz.underlying3)
      have HPM := Lib.hid (fun (ss : List Int) (h : ss.Perm (intKeys D)) => hT.perm hown h)
      clear hown hT
      have hal := (RowKit.Below.refl wr.heap.size wr).alloc (Nat.le_refl _) (.cells #[.map (some w.heap.size)] 153)
      have HR1 := Lib.hid (HR.out.of_below hal); clear hal
      simp only [List.length_nil, Nat.zero_add] at hkl
      have hmls : Maps.size D ≤ 1000 := by omega
      clear hms
      go_wp2_with fail
      refine HK.out.mono ?_
      rintro e w4 ⟨rfl, rfl⟩
      go_wp2_with fail
      refine HS.out.mono ?_
      rintro e w5 ⟨v, ss, rfl, hp, hown5, -, hb5⟩
      have hpm := HPM.out ss hp
      have hpe := pend_eq L hpm
      have hin : ∀ x ∈ ss.mergeSort (fun x y => decide (x ≤ y)), In63 x := fun x hx => wf_In63 (HKW.out x (hp.mem_iff.1 ((List.mergeSort_perm ss _).mem_iff.1 hx)))
      have hTl : (ss.mergeSort (fun x y => decide (x ≤ y))).length = ss.length := List.length_mergeSort ss
      have hsl : ss.length ≤ 1000 := by rw [hpm.length_eq]; omega
      obtain ⟨aT, cT, rfl, hrd⟩ := Rd.of_own hown5
      have hsT : Sl .i64 w5 aT cT (ss.mergeSort (fun x y => decide (x ≤ y))) := by
        show Rd 1 w5 aT (ss.mergeSort (fun x y => decide (x ≤ y))).length cT _
        rw [hTl]; exact hrd
      rw [← hTl]
      rw [← hTl] at hsl
      unfold pendP at hpe
      clear hrd hown5 hTl hpm hp
      have HR5 := Lib.hid (HR1.out.of_below hb5)
      have HIN := Lib.hid hin; clear hin
      have HPE := Lib.hid hpe; clear hpe
      have HST := Lib.hid hsT; clear hsT hb5 HR1 HK HS HKW HPM
      generalize ss.mergeSort (fun x y => decide (x ≤ y)) = T at *
      go_wp2_with fail
      go_loopg [6, 38] T.length (fun gh v6 iv wx => ∃ (j : Nat) (A' : Option Addr) (c' : Nat) (O : List Int), gh = T.length - j ∧ j ≤ T.length ∧ iv = .int .i64 j ∧ v6 = .slice A' O.length c' ∧ O.length ≤ j ∧ Hid ((T.take j).filter (fun t => decide (0 < cntL L t)) = O) ∧ Hid (wx.ownsRow w5.heap.size 3 1 (.slice A' O.length c') O.length (nums .i64 O)) ∧ Hid (RowKit.Below w5.heap.size w5 wx))
      case atStart => exact ⟨0, none, 0, [], rfl, by omega, rfl, rfl, Nat.le_refl _, rfl, World.ownsRow_nil _ _ _ _, RowKit.Below.refl _ _⟩
      case round =>
        obtain ⟨j, A', c', O, rfl, hj, rfl, rfl, hOj, HOE, HO, HB⟩ := hrel
        by_cases hjl : j < T.length
        · obtain ⟨bT, oT, rfl, hbT, hcT⟩ := HST.out.at_ (by omega)
          have cj := (HB.out.cell (p := ⟨bT, oT + j, none⟩) hbT).trans (hcT j hjl)
          clear hcT
          have hTg : T[j]? = some (T.getD j 0) := by rw [List.getD_eq_getElem?_getD, List.getElem?_eq_getElem hjl]; rfl
          have hin := HIN.out _ (List.mem_of_getElem? hTg)
          have hnx : (T.take (j + 1)).filter (fun t => decide (0 < cntL L t)) = O ++ [T.getD j 0].filter (fun t => decide (0 < cntL L t)) := by rw [take_snoc2 hTg, List.filter_append, HOE.out]
          clear hTg
          have hlook := (HR5.out.mi.of_below HB.out).look hin
          have hbx := HB.out.size
          generalize T.getD j 0 = t at *
          by_cases hpos : 0 < cntL L t
          · have HNX := Lib.hid (show (T.take (j + 1)).filter (fun t => decide (0 < cntL L t)) = O ++ [t] from by rw [hnx]; simp [hpos])
            clear hnx hin
            generalize cntL L t = ct at *
            go_wp2_with (at_builtin; refine app_one wr rfl (.tmp 46) (.tmp 48) 53 rfl w5.heap.size 3 (.int .i64 0) 1 8 Tryz.underlying53 Tryz.infoI rfl (by decide) (.slice A' O.length c') O.length _ rfl HO.out [.int .i64 t] rfl rfl (by simp [Value.oneCell']) (by omega) (by omega) hbx ?_; intro A3 c3 w6 h6 h7 h8; have hb6 := HB.out.grown h7 hbx (fun z hz => own_base HO.out z hz); have H6 := Lib.hid h6; clear h6; have HB6 := Lib.hid hb6; clear hb6 h7 h8)
            go_roundg (T.length - (j + 1))
            case measure => omega
            case rel =>
              have e1 : (O ++ [t]).length = O.length + 1 := by simp
              have e2 : nums .i64 (O ++ [t]) = nums .i64 O ++ [.int .i64 t] := by simp [nums]
              exact ⟨j + 1, A3, c3, O ++ [t], rfl, by omega, by go_num, by rw [e1], by rw [e1]; omega, HNX, (show Hid _ from by rw [e1, e2]; exact H6.out), HB6⟩
          · have HNX := Lib.hid (show (T.take (j + 1)).filter (fun t => decide (0 < cntL L t)) = O from by rw [hnx]; simp [hpos])
            clear hnx hin
            generalize cntL L t = ct at *
            go_wp2
            go_roundg (T.length - (j + 1))
            case measure => omega
            case rel => exact ⟨j + 1, A', c', O, rfl, by omega, by go_num, rfl, by omega, HNX, HO, HB⟩
        · obtain rfl : j = T.length := by omega
          have he := HOE.out
          rw [List.take_length, HPE.out] at he
          have HE := Lib.hid he
          have HSO := Lib.hid (show Sl .i64 wr A' c' O from own_rd HO.out)
          have HBE := Lib.hid (below_step HR5.out.bl HR5.out.bl.size HB.out)
          clear he
          go_wp2
          go_ret
          exact ⟨A', c', by rw [HE.out]; rfl, by rw [HE.out]; exact HSO.out, HBE.out⟩
end Go.Proofs.YtonfaojmphidpaaGreatDoor
