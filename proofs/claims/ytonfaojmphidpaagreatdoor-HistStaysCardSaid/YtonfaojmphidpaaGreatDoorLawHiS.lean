/- The walk of layer 9's law HistStays. -/
import Derived.Test.YtonfaojmphidpaaGreatDoorHistP
import Derived.Test.YtonfaojmphidpaaGreatDoorHistT
namespace Go.Proofs.YtonfaojmphidpaaGreatDoor
open Go.RowKit
set_option linter.unusedVariables false
set_option linter.unusedSimpArgs false

theorem wrapU (n : Int) (h0 : 0 ≤ n) (h1 : n ≤ 1000000) : IntKind.wrap .u64 n = n := by
  have : IntKind.wrap .u64 n = n % 18446744073709551616 := rfl
  rw [this]; omega
/-- What is known at a round's head. -/
structure HyRel (w wr : World) (g k : Nat) (s : Int) (A : Option Addr) (c : Nat) (L : List Ev) (aw : Option Addr) (cw : Nat) : Prop where
  hs : Hs wr g g s A c L
  was : wr.ownsRow g 108 6 (.slice aw L.length cw) L.length (cellsOf Ev.cells L)
  ap : ∀ b, (Value.slice A L.length c).ownBlock = some b → (Value.slice aw L.length cw).ownBlock ≠ some b
  last : ∀ x ∈ L, x.step ≤ s
  s0 : 0 ≤ s
  bl : RowKit.Below w.heap.size w wr

theorem HyRel.adv {w wr : World} {g k : Nat} {s : Int} {A : Option Addr} {c : Nat} {L : List Ev} {aw : Option Addr} {cw : Nat} (h : HyRel w wr g k s A c L aw cw) (hg : w.heap.size ≤ g) : HyRel w (wr.setCell ⟨g, 0, none⟩ (.int .u64 (s + 1))) g k (s + 1) A c L aw cw :=
  ⟨h.hs.step (s + 1), own_grew h.was (Grew.set wr ⟨g, 0, none⟩ _) (fun b hb e => own_apart h.was h.hs.blk (by decide) (by rw [hb, e])), h.ap, fun x hx => by have := h.last x hx; omega, by have := h.s0; omega, h.bl.setCell hg _⟩

set_option maxRecDepth 100000 in
set_option maxHeartbeats 8000000 in
theorem law_HistStays (a : Option Addr) (len cap : Nat) (xs : List Ev) (w : World) (h1 : EvsIn w a len cap xs) :
    Calls Tryz.prog 13 #[.slice a len cap] w fun e w' => e = .returned (.bool true) ∧ RowKit.Below w.heap.size w w' := by
  obtain ⟨rfl, hn1, hwf1, hs1⟩ := h1
  by_cases hbig : 100 < xs.length
  · clear hs1 hwf1
    go_enter Tryz.func13, Tryz.ntmps13
    go_wp2_with (go_at_call 59; refine (law09_awake _).mono ?_; rintro e w' ⟨rfl, hb⟩)
    go_ret
    exact ⟨rfl, hb⟩
  have HWF := Lib.hid hwf1; clear hwf1
  have HS1 := Lib.hid hs1; clear hs1
  go_enter Tryz.func13, Tryz.ntmps13
  go_wp2_with fail
  refine (law09_awake _).mono ?_
  rintro e w1 ⟨rfl, hb1⟩
  have HB1 := Lib.hid hb1; clear hb1
  have hw1 := HB1.out.size
  go_wp2_with fail
  refine (hist_New _).mono ?_
  rintro e w2 ⟨rfl, rfl⟩
  have hs0 := Hs.new w1 0
  have hB2 := HB1.out.alloc hw1 (.cells #[.int .u64 0, .slice none 0 0] 151)
  have hsz2 := size_alloc w1 (.cells #[.int .u64 0, .slice none 0 0] 151)
  generalize w1.alloc (.cells #[.int .u64 0, .slice none 0 0] 151) = w2 at *
  generalize hg : w1.heap.size = g at *
  have hgw : w.heap.size ≤ g := hw1
  have hgs : g < w2.heap.size := by omega
  have HR : Hid (HyRel w w2 g 0 0 none 0 [] none 0) := ⟨hs0, World.ownsRow_nil _ _ _ _, (fun b hb => by simp [Value.ownBlock] at hb), (fun x hx => by cases hx), (by omega), hB2⟩
  clear hsz2 hs0 hB2 HB1 hg hw1
  go_wp2_with fail
  go_loopg [4, 17] xs.length (fun gh v iv wr => ∃ (k : Nat) (s : Int) (A : Option Addr) (c : Nat) (L : List Ev) (aw : Option Addr) (cw : Nat), gh = xs.length - k ∧ k ≤ xs.length ∧ iv = .int .i64 k ∧ L.length = k ∧ v = .slice aw L.length cw ∧ s ≤ 3 * k ∧ Hid (HyRel w wr g k s A c L aw cw))
  case atStart => exact ⟨0, 0, none, 0, [], none, 0, rfl, by omega, rfl, rfl, rfl, by omega, HR⟩
  case round =>
    clear HR
    obtain ⟨k, s, A, c, L, aw, cw, rfl, hk, rfl, hLk, rfl, hsk, HR⟩ := hrel
    have hgl := HR.out.hs.blk.lt
    subst hLk
    by_cases hlt : L.length < xs.length
    · obtain ⟨b0, off, rfl, hbs, hc⟩ := HS1.out (by omega)
      have c0 := (HR.out.bl.cell (p := ⟨b0, off + (L.length * 6 + 0), none⟩) hbs).trans (hc L.length hlt 0 _ rfl)
      have c1 := (HR.out.bl.cell (p := ⟨b0, off + (L.length * 6 + 1), none⟩) hbs).trans (hc L.length hlt 1 _ rfl)
      have c2 := (HR.out.bl.cell (p := ⟨b0, off + (L.length * 6 + 2), none⟩) hbs).trans (hc L.length hlt 2 _ rfl)
      have c3 := (HR.out.bl.cell (p := ⟨b0, off + (L.length * 6 + 3), none⟩) hbs).trans (hc L.length hlt 3 _ rfl)
      have c4 := (HR.out.bl.cell (p := ⟨b0, off + (L.length * 6 + 4), none⟩) hbs).trans (hc L.length hlt 4 _ rfl)
      have c5 := (HR.out.bl.cell (p := ⟨b0, off + (L.length * 6 + 5), none⟩) hbs).trans (hc L.length hlt 5 _ rfl)
      simp only [← Nat.add_assoc, Nat.add_zero] at c0 c1 c2 c3 c4 c5
      clear hc
      have hxr := HWF.out (xs.getD L.length default) (getD_mem hlt)
      generalize xs.getD L.length default = x at *
      obtain ⟨xst, xth, xkd, xop, xid, xer⟩ := x
      obtain ⟨⟨hst0, hst1⟩, -⟩ := hxr
      dsimp only at *
      have hal := (RowKit.Below.refl wr.heap.size wr).alloc (Nat.le_refl _) (.cells #[.int .u64 xst, .int .i64 xth, .int .i64 xkd, .int .i64 xop, .int .u64 xid, .int .i64 xer] 108)
      have hkb := Blk.new wr 108 #[.int .u64 xst, .int .i64 xth, .int .i64 xkd, .int .i64 xop, .int .u64 xid, .int .i64 xer]
      have HH := Lib.hid (HR.out.hs.of_below hal)
      have HW := Lib.hid (own_below HR.out.was hal)
      have HBL := Lib.hid (HR.out.bl.alloc HR.out.bl.size (.cells #[.int .u64 xst, .int .i64 xth, .int .i64 xkd, .int .i64 xop, .int .u64 xid, .int .i64 xer] 108))
      have HKB := Lib.hid hkb; clear hkb hal
      have hgb : g < wr.heap.size := hgl
      obtain ⟨q, hq⟩ : ∃ q : Nat, xst % 4 = q := ⟨(xst % 4).toNat, by omega⟩
      have hq3 : q ≤ 3 := by omega
      have HQ := Lib.hid hq; clear hq
      go_wp2_with fail
      rw [HQ.out]
      clear c0 c1 c2 c3 c4 c5 hbs
      generalize hwa : wr.alloc (.cells #[.int .u64 xst, .int .i64 xth, .int .i64 xkd, .int .i64 xop, .int .u64 xid, .int .i64 xer] 108) = wa at *
      generalize hbx : wr.heap.size = bx at *
      have HR0 : Hid (HyRel w wa g L.length s A c L aw cw) := ⟨HH.out, HW.out, HR.out.ap, HR.out.last, HR.out.s0, HBL.out⟩
      clear HR HH HW HBL hwa hbx
      go_loopg [24] q (fun gh iv wx => ∃ j : Nat, gh = q - j ∧ j ≤ q ∧ iv = .int .u64 j ∧ Hid (HyRel w wx g L.length (s + j) A c L aw cw) ∧ Hid (Blk wx bx 108 #[.int .u64 xst, .int .i64 xth, .int .i64 xkd, .int .i64 xop, .int .u64 xid, .int .i64 xer]))
      case atStart => exact ⟨0, rfl, by omega, rfl, by simpa using HR0, HKB⟩
      case round =>
        clear HR0 HKB
        obtain ⟨j, rfl, hjq, rfl, HR, HKB⟩ := hrel
        have hs0 := HR.out.s0
        by_cases hj : j < q
        · have hav := hist_Advance g (s + j) _ wr HR.out.hs.blk
          rw [wrapU _ (by omega) (by omega)] at hav
          have HAV := Lib.hid hav; clear hav
          go_wp2_with fail
          refine HAV.out.mono ?_
          rintro e w5 ⟨rfl, rfl⟩
          go_wp2_with fail
          go_roundg (q - (j + 1))
          case measure => omega
          case rel => exact ⟨j + 1, rfl, by omega, by go_num, (show Hid _ from by rw [show (s + (j + 1 : Nat) : Int) = s + j + 1 by omega]; exact HR.out.adv hgw), (HKB.out.grew (Grew.set wr ⟨g, 0, none⟩ _) (fun e => by dsimp only at e; omega))⟩
        · have hsq : s + j ≤ 3 * L.length + 3 := by omega
          generalize s + (j : Int) = s1 at *
          have b1 := HKB.out.cell 1
          have b2 := HKB.out.cell 2
          have b3 := HKB.out.cell 3
          have b4 := HKB.out.cell 4
          have b5 := HKB.out.cell 5
          have bl := HKB.out.lt
          simp only [List.getElem?_toArray, List.getElem?_cons_zero, List.getElem?_cons_succ] at b1 b2 b3 b4 b5
          have hgl2 := HR.out.hs.blk.lt
          have hadd := hist_Add g g s1 A c L xth xkd xop xid xer wr HR.out.hs (by omega) (by omega)
          have HADD := Lib.hid hadd; clear hadd
          go_wp2_with fail
          refine HADD.out.mono ?_
          rintro e w5 ⟨rfl, hto⟩
          obtain ⟨A5, c5, hs5, hg5⟩ := hto
          have hwas5 := own_grew HR.out.was hg5 (fun b hb e => by
            rcases e with rfl | e
            · exact own_apart HR.out.was HR.out.hs.blk (by decide) hb
            · exact HR.out.ap b e hb)
          have hbl5 := HsTo.below HR.out.hs HR.out.bl hg5 hgw hgw HR.out.bl.size
          have hall := hist_All2 g g s1 A5 c5 _ w5 hs5
          have HALL := Lib.hid hall; clear hall
          have HS5 := Lib.hid hs5; clear hs5
          have HWAS5 := Lib.hid hwas5; clear hwas5
          have HBL5 := Lib.hid hbl5; clear hbl5
          clear hg5 HADD b1 b2 b3 b4 b5
          go_wp2_with fail
          refine HALL.out.mono ?_
          rintro e w6 ⟨a6, c6, rfl, ho6, hb6⟩
          have e1 : (L ++ [(⟨s1, xth, xkd, xop, xid, xer⟩ : Ev)]).length = L.length + 1 := by simp
          rw [e1] at ho6
          rw [e1]
          obtain ⟨b6, cur6, rfl, hb6w, hk6, -, hc6, hc6m, hcu6⟩ := own_at ho6 (by omega)
          have hc6' : L.length ≤ c6 := by omega
          have hrw6 : Rw Ev.cells 6 w6 (some ⟨b6, 0, none⟩) c6 (L ++ [(⟨s1, xth, xkd, xop, xid, xer⟩ : Ev)]) := by unfold Rw; rw [e1]; exact own_rd ho6
          have hrwL : Rw Ev.cells 6 w6 (some ⟨b6, 0, none⟩) c6 L := by
            have := hrw6.take Ev.cells_length (k := L.length) (cap' := c6) (by rw [e1]; omega) (by have := hrw6.le; rw [e1] at this; omega) (fun e => by cases e)
            rw [List.take_left' rfl] at this
            exact this
          have hwas6 := own_below HWAS5.out hb6
          have heq := fun n => slices_Equal_event (some ⟨b6, 0, none⟩) aw c6 cw L L (w6.drewN n) (hrwL.below (below_drewN (RowKit.Below.refl _ _) n)) ((own_rw hwas6).below (below_drewN (RowKit.Below.refl _ _) n)) (by omega) (by omega)
          simp only [decide_true] at heq
          have HEQ := Lib.hid heq; clear heq
          have hl6 : w6.cell? ⟨b6, L.length * 6, none⟩ = some (.int .u64 s1) := by
            have := hk6.cell (L.length * 6)
            rw [this, hcu6 _ (by omega)]
            have := cellsOf_get (f := Ev.cells) Ev.cells_length (L := L ++ [(⟨s1, xth, xkd, xop, xid, xer⟩ : Ev)]) (k := L.length) (j := 0) (x := ⟨s1, xth, xkd, xop, xid, xer⟩) (by simp) (by decide)
            rw [Nat.add_zero] at this
            rw [this]; rfl
          obtain ⟨y0, hy0⟩ : ∃ y0, (L ++ [(⟨s1, xth, xkd, xop, xid, xer⟩ : Ev)])[0]? = some y0 := ⟨_, List.getElem?_eq_getElem (by omega)⟩
          have hi6 : w6.cell? ⟨b6, 4, none⟩ = some (.int .u64 y0.id) := by
            rw [hk6.cell 4, hcu6 4 (by omega)]
            have := cellsOf_get (f := Ev.cells) Ev.cells_length hy0 (j := 4) (by decide)
            rw [show 0 * 6 + 4 = 4 from rfl] at this
            rw [this]; rfl
          have HY := Lib.hid hy0; clear hy0
          have hall7 := fun n => hist_All2 g g s1 A5 c5 _ (w6.drewN n) (HS5.out.of_below (below_drewN hb6 n))
          rw [e1] at hall7
          have HALL7 := Lib.hid hall7; clear hall7
          have HL6 := Lib.hid hl6; clear hl6
          have HI6 := Lib.hid hi6; clear hi6
          have HWAS6 := Lib.hid hwas6; clear hwas6
          have HO6 := Lib.hid ho6; clear ho6
          have HB6 := Lib.hid hb6; clear hb6
          have HK6 := Lib.hid hk6; clear hk6
          clear e1 hcu6 hrw6 hrwL HALL HWAS5
          have hw1 : IntKind.i64.wrap ((L.length : Int) + 1) = (L.length : Int) + 1 := by rw [IntKind.wrap_i64]; omega
          rcases Nat.eq_zero_or_pos L.length with h0 | h0
          · have hd : decide ((0 : Int) < (L.length : Int)) = false := by simp [h0]
            have hd2 : decide (0 < L.length) = false := by simp [h0]
            have H0 := Lib.hid h0; clear h0
            go_wp2_with fail
            go_quiet ((go_at_call 74; exact Calls.quiet_of (HEQ.out _)))
            go_wp2_with fail
            refine (HALL7.out _).mono ?_
            rintro e w8 ⟨a8, c8, rfl, ho8, hb8⟩
            have hB8 := (below_drewN (RowKit.Below.refl w6.heap.size w6) _).trans hb8
            have hk8 := HK6.out.of_below hB8
            have hi8 : w8.cell? ⟨b6, 4, none⟩ = some (.int .u64 y0.id) := (hB8.cell (p := ⟨b6, 4, none⟩) HK6.out.lt).trans HI6.out
            have hf8 := hk8.frozen 4
            have hl8 := hk8.lt
            have HB8 := Lib.hid (below_step HB6.out HB6.out.size hB8)
            have HO8 := Lib.hid (ownsRow_base_a ho8 (show w6.heap.size ≤ _ from Nat.le_refl _))
            clear hk8 ho8 hb8 hB8
            go_wp2_with fail
            go_roundg (xs.length - (L.length + 1))
            case measure => omega
            case rel =>
              have e1 : (L ++ [(⟨s1, xth, xkd, xop, xid, xer⟩ : Ev)]).length = L.length + 1 := by simp
              have hset := HB8.out.setCell (p := ⟨b6, 4, none⟩) hb6w (.int .u64 (IntKind.u64.wrap (y0.id + 1)))
              have hbl := below_step HBL5.out HBL5.out.size hset
              refine ⟨L.length + 1, s1, A5, c5, L ++ [⟨s1, xth, xkd, xop, xid, xer⟩], a8, c8, rfl, by omega, by go_num, e1, by rw [e1], by omega, (show Hid _ from ⟨HS5.out.of_below hset, ?_, ?_, ?_, hs0, hbl⟩)⟩
              · rw [e1]
                exact ownsRow_base_a (own_grew HO8.out (Grew.set w8 ⟨b6, 4, none⟩ _) (fun k hk e => by have := own_base HO8.out k hk; have := HK6.out.lt; dsimp only at e; omega)) (by have := HB6.out.size; have := HS5.out.blk.lt; omega)
              · intro k hk hk'
                rw [e1] at hk'
                have h8 := own_base HO8.out k hk'
                obtain ⟨_, hkb⟩ := own_blk_type HS5.out.row hk
                have := hkb.lt
                have := HB6.out.size
                omega
              · intro x hx
                rcases List.mem_append.1 hx with hx | hx
                · exact HR.out.last x hx
                · rw [List.mem_singleton.1 hx]; exact Int.le_refl _
          · have hd : decide ((0 : Int) < (L.length : Int)) = true := by simpa using h0
            have hd2 : decide (0 < L.length) = true := by simpa using h0
            have hwr : IntKind.i64.wrap ((L.length : Int) - 1) = ((L.length - 1 : Nat) : Int) := by rw [IntKind.wrap_i64]; omega
            have hli : L.length - 1 < L.length := by omega
            obtain ⟨bw, curw, rfl, hbw, hkw, -, -, -, hcuw⟩ := own_at HWAS6.out h0
            obtain ⟨y, hy⟩ : ∃ y, L[L.length - 1]? = some y := ⟨_, List.getElem?_eq_getElem (by omega)⟩
            have hlast : w6.cell? ⟨bw, (L.length - 1) * 6, none⟩ = some (.int .u64 y.step) := by
              rw [hkw.cell, hcuw _ (by omega)]
              have := cellsOf_get (f := Ev.cells) Ev.cells_length hy (j := 0) (by decide)
              rw [Nat.add_zero] at this
              rw [this]; rfl
            have hys := HR.out.last y (List.mem_of_getElem? hy)
            have hl6 := HL6.out
            clear hy hcuw hkw
            have H0 := Lib.hid h0; clear h0
            go_wp2_with fail
            go_quiet ((go_at_call 74; exact Calls.quiet_of (HEQ.out _)))
            go_wp2_with fail
            refine (HALL7.out _).mono ?_
            rintro e w8 ⟨a8, c8, rfl, ho8, hb8⟩
            have hB8 := (below_drewN (RowKit.Below.refl w6.heap.size w6) _).trans hb8
            have hk8 := HK6.out.of_below hB8
            have hi8 : w8.cell? ⟨b6, 4, none⟩ = some (.int .u64 y0.id) := (hB8.cell (p := ⟨b6, 4, none⟩) HK6.out.lt).trans HI6.out
            have hf8 := hk8.frozen 4
            have hl8 := hk8.lt
            have HB8 := Lib.hid (below_step HB6.out HB6.out.size hB8)
            have HO8 := Lib.hid (ownsRow_base_a ho8 (show w6.heap.size ≤ _ from Nat.le_refl _))
            clear hk8 ho8 hb8 hB8
            go_wp2_with fail
            go_roundg (xs.length - (L.length + 1))
            case measure => omega
            case rel =>
              have e1 : (L ++ [(⟨s1, xth, xkd, xop, xid, xer⟩ : Ev)]).length = L.length + 1 := by simp
              have hset := HB8.out.setCell (p := ⟨b6, 4, none⟩) hb6w (.int .u64 (IntKind.u64.wrap (y0.id + 1)))
              have hbl := below_step HBL5.out HBL5.out.size hset
              refine ⟨L.length + 1, s1, A5, c5, L ++ [⟨s1, xth, xkd, xop, xid, xer⟩], a8, c8, rfl, by omega, by go_num, e1, by rw [e1], by omega, (show Hid _ from ⟨HS5.out.of_below hset, ?_, ?_, ?_, hs0, hbl⟩)⟩
              · rw [e1]
                exact ownsRow_base_a (own_grew HO8.out (Grew.set w8 ⟨b6, 4, none⟩ _) (fun k hk e => by have := own_base HO8.out k hk; have := HK6.out.lt; dsimp only at e; omega)) (by have := HB6.out.size; have := HS5.out.blk.lt; omega)
              · intro k hk hk'
                rw [e1] at hk'
                have h8 := own_base HO8.out k hk'
                obtain ⟨_, hkb⟩ := own_blk_type HS5.out.row hk
                have := hkb.lt
                have := HB6.out.size
                omega
              · intro x hx
                rcases List.mem_append.1 hx with hx | hx
                · exact HR.out.last x hx
                · rw [List.mem_singleton.1 hx]; exact Int.le_refl _
    · have HBL := Lib.hid HR.out.bl; clear HR
      go_wp2_with fail
      refine (hist_Add_nil 0 0 0 0 0 wr).mono ?_
      rintro e w2 ⟨rfl, rfl⟩
      go_wp2_with fail
      refine (hist_Now_nil wr).mono ?_
      rintro e w2 ⟨rfl, rfl⟩
      go_wp2_with fail
      refine (hist_Advance_nil wr).mono ?_
      rintro e w2 ⟨rfl, rfl⟩
      go_wp2_with fail
      refine (hist_All_nil wr).mono ?_
      rintro e w2 ⟨rfl, rfl⟩
      go_wp2_with fail
      refine (hist_Pending_nil wr).mono ?_
      rintro e w2 ⟨rfl, hb2⟩
      have HB2 := Lib.hid (below_step HBL.out HBL.out.size hb2); clear hb2
      go_wp2_with fail
      refine (hist_Clone_nil w2).mono ?_
      rintro e w3 ⟨rfl, rfl⟩
      go_wp2_with fail
      go_ret
      exact ⟨rfl, HB2.out⟩
end Go.Proofs.YtonfaojmphidpaaGreatDoor
