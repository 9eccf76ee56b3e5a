/- The walk of layer 9's law HistTells. -/
import Derived.Test.YtonfaojmphidpaaGreatDoorHisQ
import Derived.Test.YtonfaojmphidpaaGreatDoorHisS
import Derived.Test.YtonfaojmphidpaaGreatDoorHisY
import Derived.Deep.CutRange
import Derived.Deep.CutBlock
namespace Go.Proofs.YtonfaojmphidpaaGreatDoor
open Go.RowKit
set_option linter.unusedVariables false
set_option linter.unusedSimpArgs false

theorem wrapU9 (x : Int) (h0 : 0 ≤ x) (h1 : x < 18446744073709551616) : IntKind.u64.wrap x = x := by rw [IntKind.wrap_u64]; omega
theorem own_lt9 {w : World} {base n : Nat} {e : TypeId} {size : Nat} {v : Value} {xs : List Value} (h : w.ownsRow base e size v n xs) {k : Nat} (hk : v.ownBlock = some k) : k < w.heap.size := by
  obtain ⟨cur, hc⟩ := own_blk_type h hk
  exact hc.lt
theorem own_keepHs {w w' : World} {B g : Nat} {s : Int} {A : Option Addr} {c : Nat} {L : List Ev} (h : Hs w B g s A c L) {B' n : Nat} {e : TypeId} {z : Nat} {v : Value} {xs : List Value} (ho : w.ownsRow B' e z v n xs) (he1 : 151 ≠ e) (he2 : 108 ≠ e) (hg : Grew w w' (fun k => k = g ∨ (Value.slice A L.length c).ownBlock = some k)) : w'.ownsRow B' e z v n xs :=
  own_grew ho hg (fun k hk hS => by
    rcases hS with rfl | hS
    · exact own_apart ho h.blk he1 hk
    · exact own_apart2 h.row ho he2 hS hk)
theorem Blk.keepHs {w w' : World} {B g : Nat} {s : Int} {A : Option Addr} {c : Nat} {L : List Ev} (h : Hs w B g s A c L) {b : Nat} {t : TypeId} {cs : Array Value} (hb : Blk w b t cs) (h1 : 151 ≠ t) (h2 : ∀ k, (Value.slice A L.length c).ownBlock = some k → k ≠ b) (hg : Grew w w' (fun k => k = g ∨ (Value.slice A L.length c).ownBlock = some k)) : Blk w' b t cs :=
  hb.grew hg (fun e => by
    rcases e with rfl | e
    · exact h.blk.ne_type hb h1 rfl
    · exact h2 _ e rfl)
/-- What is known between the pieces of a round: W is the world in which the parameter is boxed. -/
structure HtIn (W wr : World) (g dd : Nat) (s : Int) (A : Option Addr) (c : Nat) (L : List Ev) (ad : Option Addr) (cd : Nat) : Prop where
  hs : Hs wr W.heap.size g s A c L
  dk : Blk wr dd 113 #[.int .u64 s, .slice ad L.length cd]
  dr : wr.ownsRow W.heap.size 118 6 (.slice ad L.length cd) L.length (cellsOf Ev.cells L)
  gw : W.heap.size ≤ g
  dw : W.heap.size ≤ dd
  bl : RowKit.Below W.heap.size W wr
section
variable {W wr w' : World} {g dd : Nat} {s : Int} {A : Option Addr} {c : Nat} {L : List Ev} {ad : Option Addr} {cd : Nat}
theorem HtIn.of_below (h : HtIn W wr g dd s A c L ad cd) (hb : RowKit.Below wr.heap.size wr w') : HtIn W w' g dd s A c L ad cd :=
  ⟨h.hs.of_below hb, h.dk.of_below hb, own_below h.dr hb, h.gw, h.dw, below_step h.bl h.bl.size hb⟩
theorem HtIn.ne (h : HtIn W wr g dd s A c L ad cd) : g ≠ dd := h.hs.blk.ne_type h.dk (by decide)
theorem HtIn.adv (h : HtIn W wr g dd s A c L ad cd) (s' : Int) : HtIn W ((wr.setCell ⟨dd, 0, none⟩ (.int .u64 s')).setCell ⟨g, 0, none⟩ (.int .u64 s')) g dd s' A c L ad cd := by
  have hg1 := Grew.set wr ⟨dd, 0, none⟩ (.int .u64 s')
  have h1 : Hs (wr.setCell ⟨dd, 0, none⟩ (.int .u64 s')) W.heap.size g s A c L := ⟨h.hs.blk.grew hg1 (fun e => h.ne e), own_grew h.hs.row hg1 (fun k hk e => own_apart h.hs.row h.dk (by decide) (by rw [hk, e])), h.hs.len⟩
  have hd1 := h.dk.put 0 (.int .u64 s')
  have hr1 := own_grew h.dr hg1 (fun k hk e => own_apart h.dr h.dk (by decide) (by rw [hk, e]))
  have hb1 := h.bl.setCell (p := ⟨dd, 0, none⟩) h.dw (.int .u64 s')
  have hg2 := Grew.set (wr.setCell ⟨dd, 0, none⟩ (.int .u64 s')) ⟨g, 0, none⟩ (.int .u64 s')
  exact ⟨h1.step s', hd1.grew hg2 (fun e => h.ne e.symm), own_grew hr1 hg2 (fun k hk e => own_apart hr1 h1.blk (by decide) (by rw [hk, e])), h.gw, h.dw, hb1.setCell (p := ⟨g, 0, none⟩) h.gw _⟩
end
theorem evOne {w : World} {b : Nat} {t : TypeId} {st th kd op id er : Int} (h : Blk w b t #[.int .u64 st, .int .i64 th, .int .i64 kd, .int .i64 op, .int .u64 id, .int .i64 er]) : Rw Ev.cells 6 w (some ⟨b, 0, none⟩) 1 [⟨st, th, kd, op, id, er⟩] :=
  ⟨rfl, Nat.le_refl _, (fun e => by cases e), fun _ => ⟨b, 0, rfl, h.lt, fun i v hi => by
    rw [Nat.zero_add, h.cell]
    rcases i with _ | _ | _ | _ | _ | _ | i <;> simp [cellsOf, Ev.cells] at hi ⊢ <;> exact hi⟩⟩
theorem evCells {w : World} {base : Nat} {t : TypeId} {a : Option Addr} {c b : Nat} {cur : Array Value} {st th kd op id er : Int} (ho : w.ownsRow base t 6 (.slice a 1 c) 1 (cellsOf Ev.cells [(⟨st, th, kd, op, id, er⟩ : Ev)])) (hk : Blk w b t cur) (hcu : ∀ i, i < 1 * 6 → cur[i]? = (cellsOf Ev.cells [(⟨st, th, kd, op, id, er⟩ : Ev)])[i]?) (w' : World) (hu : Up w w') :
    w'.cell? ⟨b, 0, none⟩ = some (.int .u64 st) ∧ w'.cell? ⟨b, 1, none⟩ = some (.int .i64 th) ∧ w'.cell? ⟨b, 2, none⟩ = some (.int .i64 kd) ∧ w'.cell? ⟨b, 3, none⟩ = some (.int .i64 op) ∧ w'.cell? ⟨b, 4, none⟩ = some (.int .u64 id) ∧ w'.cell? ⟨b, 5, none⟩ = some (.int .i64 er) := by
  have hk' := hk.of_below hu
  exact ⟨by rw [hk'.cell, hcu 0 (by decide)]; rfl, by rw [hk'.cell, hcu 1 (by decide)]; rfl, by rw [hk'.cell, hcu 2 (by decide)]; rfl, by rw [hk'.cell, hcu 3 (by decide)]; rfl, by rw [hk'.cell, hcu 4 (by decide)]; rfl, by rw [hk'.cell, hcu 5 (by decide)]; rfl⟩

set_option maxRecDepth 100000 in
set_option maxHeartbeats 16000000 in
theorem law_HistTells (a : Option Addr) (len cap : Nat) (xs : List Ev) (st th kd op id er : Int) (w : World) (h1 : EvsIn w a len cap xs) (he : (⟨st, th, kd, op, id, er⟩ : Ev).wf) (ht : Pow10 w) :
    Calls Tryz.prog 12 #[.slice a len cap, .agg #[.int .u64 st, .int .i64 th, .int .i64 kd, .int .i64 op, .int .u64 id, .int .i64 er]] w fun e w' => e = .returned (.bool true) ∧ RowKit.Below w.heap.size w w' := by
  obtain ⟨rfl, hn1, hwf1, hs1⟩ := h1
  have hb0 := (RowKit.Below.refl w.heap.size w).alloc (Nat.le_refl _) (.cells #[.int .u64 st, .int .i64 th, .int .i64 kd, .int .i64 op, .int .u64 id, .int .i64 er] 108)
  have HB0 := Lib.hid hb0; clear hb0
  by_cases hbig : 100 < xs.length
  · clear hs1 hwf1 ht
    go_enter Tryz.func12, Tryz.ntmps12
    go_wp2_with (go_at_call 59; refine (law09_awake _).mono ?_; rintro e w' ⟨rfl, hb⟩)
    go_ret
    exact ⟨rfl, below_step HB0.out HB0.out.size hb⟩
  have HWF := Lib.hid hwf1; clear hwf1
  have HEK := Lib.hid (Blk.new w 108 #[.int .u64 st, .int .i64 th, .int .i64 kd, .int .i64 op, .int .u64 id, .int .i64 er])
  have HPW := Lib.hid (ht.below HB0.out); clear ht
  have hs1' : 0 < xs.length → ∃ b off, a = some ⟨b, off, none⟩ ∧ b < (w.alloc (.cells #[.int .u64 st, .int .i64 th, .int .i64 kd, .int .i64 op, .int .u64 id, .int .i64 er] 108)).heap.size ∧ ∀ i, i < xs.length → ∀ j v, (xs.getD i default).cells[j]? = some v → (w.alloc (.cells #[.int .u64 st, .int .i64 th, .int .i64 kd, .int .i64 op, .int .u64 id, .int .i64 er] 108)).cell? ⟨b, off + (i * 6 + j), none⟩ = some v := fun h0 => by
    obtain ⟨b, off, e, hb, hc⟩ := hs1 h0
    exact ⟨b, off, e, Nat.lt_of_lt_of_le hb HB0.out.size, fun i hi j v hv => (HB0.out.cell (p := ⟨b, _, none⟩) hb).trans (hc i hi j v hv)⟩
  have HS1 := Lib.hid hs1'; clear hs1' hs1
  go_enter Tryz.func12, Tryz.ntmps12
  go_wp2_with fail
  generalize hW : w.alloc (.cells #[.int .u64 st, .int .i64 th, .int .i64 kd, .int .i64 op, .int .u64 id, .int .i64 er] 108) = W at *
  clear hW

  refine (law09_awake _).mono ?_
  rintro e w1 ⟨rfl, hb1⟩
  have HB1 := Lib.hid hb1; clear hb1
  go_wp2_with fail
  refine (hist_New _).mono ?_
  rintro e w2 ⟨rfl, rfl⟩
  have hs0 := Hs.new w1 0
  have hB2 := HB1.out.alloc HB1.out.size (.cells #[.int .u64 0, .slice none 0 0] 151)
  have hgw : W.heap.size ≤ w1.heap.size := HB1.out.size
  generalize w1.alloc (.cells #[.int .u64 0, .slice none 0 0] 151) = w2 at *
  generalize w1.heap.size = g at *
  have hal := (RowKit.Below.refl w2.heap.size w2).alloc (Nat.le_refl _) (.cells #[.int .u64 0, .slice none 0 0] 113)
  have hs2 := hs0.of_below hal
  have hR : HtIn W (w2.alloc (.cells #[.int .u64 0, .slice none 0 0] 113)) g w2.heap.size 0 none 0 [] none 0 := ⟨⟨hs2.blk, World.ownsRow_nil _ _ _ _, by simp⟩, Blk.new _ _ _, World.ownsRow_nil _ _ _ _, hgw, hB2.size, below_step hB2 hB2.size hal⟩
  have HR := Lib.hid hR; clear hR hs2 hal hs0 hgw hB2 HB1
  go_wp2_with fail
  generalize w2.alloc (.cells #[.int .u64 0, .slice none 0 0] 113) = w3 at *
  generalize w2.heap.size = dd at *
  go_loopg [5, 18] xs.length (fun gh v5 iv wr => ∃ (k g : Nat) (s : Int) (A : Option Addr) (c : Nat) (L : List Ev) (ad : Option Addr) (cd : Nat), gh = xs.length - k ∧ k ≤ xs.length ∧ v5 = .pointer (some ⟨g, 0, none⟩) ∧ iv = .int .i64 k ∧ L.length = k ∧ 0 ≤ s ∧ s ≤ 2 * k ∧ Hid (HtIn W wr g dd s A c L ad cd) ∧ Hid (∀ x ∈ L, In63 x.thread))
  case atStart => exact ⟨0, g, 0, none, 0, [], none, 0, rfl, by omega, rfl, rfl, rfl, by omega, by omega, HR, (show Hid _ from fun x hx => by cases hx)⟩
  case round =>
    clear HR
    obtain ⟨k, g, s, A, c, L, ad, cd, rfl, hk, rfl, rfl, hLk, hs0, hsk, HR, HTI⟩ := hrel
    subst hLk
    by_cases hlt : L.length < xs.length
    · obtain ⟨b0, off, rfl, hbs, hc⟩ := HS1.out (by omega)
      have c0 := (HR.out.bl.cell (p := ⟨b0, off + (L.length * 6 + 0), none⟩) hbs).trans (hc L.length hlt 0 _ rfl)
      have c1 := (HR.out.bl.cell (p := ⟨b0, off + (L.length * 6 + 1), none⟩) hbs).trans (hc L.length hlt 1 _ rfl)
      have c2 := (HR.out.bl.cell (p := ⟨b0, off + (L.length * 6 + 2), none⟩) hbs).trans (hc L.length hlt 2 _ rfl)
      have c3 := (HR.out.bl.cell (p := ⟨b0, off + (L.length * 6 + 3), none⟩) hbs).trans (hc L.length hlt 3 _ rfl)
      have c4 := (HR.out.bl.cell (p := ⟨b0, off + (L.length * 6 + 4), none⟩) hbs).trans (hc L.length hlt 4 _ rfl)
      have c5 := (HR.out.bl.cell (p := ⟨b0, off + (L.length * 6 + 5), none⟩) hbs).trans (hc L.length hlt 5 _ rfl)
      simp only [← Nat.add_assoc, Nat.add_zero] at c0 c1 c2 c3 c4 c5
      clear hc
      have hxr := HWF.out (xs.getD L.length default) (getD_mem hlt)
      generalize xs.getD L.length default = x at *
      obtain ⟨xst, xth, xkd, xop, xid, xer⟩ := x
      obtain ⟨⟨hst0, hst1⟩, hxth, -⟩ := hxr
      dsimp only at *
      have HTX := Lib.hid (show In63 xth from hxth); clear hxth
      have hal := (RowKit.Below.refl wr.heap.size wr).alloc (Nat.le_refl _) (.cells #[.int .u64 xst, .int .i64 xth, .int .i64 xkd, .int .i64 xop, .int .u64 xid, .int .i64 xer] 108)
      have HKB := Lib.hid (Blk.new wr 108 #[.int .u64 xst, .int .i64 xth, .int .i64 xkd, .int .i64 xop, .int .u64 xid, .int .i64 xer])
      have HNB := Lib.hid (fun k (hk : (Value.slice A L.length c).ownBlock = some k) => (show k ≠ wr.heap.size from by have := own_lt9 HR.out.hs.row hk; omega))
      have HR1 := Lib.hid (HR.out.of_below hal); clear hal
      obtain ⟨q, hq⟩ : ∃ q : Nat, xst % 3 = q := ⟨(xst % 3).toNat, by omega⟩
      have hq2 : q ≤ 2 := by omega
      have HQ := Lib.hid hq; clear hq
      go_wp2_with fail
      rw [HQ.out]
      clear c0 c1 c2 c3 c4 c5 hbs HR
      generalize wr.alloc (.cells #[.int .u64 xst, .int .i64 xth, .int .i64 xkd, .int .i64 xop, .int .u64 xid, .int .i64 xer] 108) = wa at *
      generalize wr.heap.size = bx at *
      go_loopg [26] q (fun gh iv wx => ∃ j : Nat, gh = q - j ∧ j ≤ q ∧ iv = .int .u64 j ∧ Hid (HtIn W wx g dd (s + j) A c L ad cd) ∧ Hid (Blk wx bx 108 #[.int .u64 xst, .int .i64 xth, .int .i64 xkd, .int .i64 xop, .int .u64 xid, .int .i64 xer]))
      case atStart => exact ⟨0, rfl, by omega, rfl, by simpa using HR1, HKB⟩
      case round =>
        clear HR1 HKB
        obtain ⟨j, rfl, hjq, rfl, HR, HKB⟩ := hrel
        by_cases hj : j < q
        · have y0 := HR.out.dk.cell 0
          have y1 := HR.out.dk.frozen 0
          have y2 := HR.out.dk.lt
          simp only [List.getElem?_toArray, List.getElem?_cons_zero] at y0
          have hwu : IntKind.u64.wrap (s + j + 1) = s + j + 1 := wrapU9 _ (by omega) (by omega)
          have HADV := Lib.hid (HR.out.adv (s + j + 1))
          have HNE := Lib.hid HR.out.ne
          have hg1 := Grew.set wr ⟨dd, 0, none⟩ (.int .u64 (s + j + 1))
          have hav := hist_Advance g (s + j) (.slice A L.length c) (wr.setCell ⟨dd, 0, none⟩ (.int .u64 (s + j + 1))).drew (Blk.drew (HR.out.hs.blk.grew hg1 (fun e => HR.out.ne e)))
          rw [hwu] at hav
          have HAV := Lib.hid hav; clear hav
          have hz : (wr.setCell ⟨dd, 0, none⟩ (.int .u64 (s + j + 1))).drew.cell? ⟨dd, 0, none⟩ = some (.int .u64 (s + j + 1)) := by
            have := (HR.out.dk.put 0 (.int .u64 (s + j + 1))).cell 0
            exact this
          have HZ := Lib.hid hz; clear hz hg1
          have HK2 := Lib.hid (fun (hbd : bx ≠ dd) (hbg : bx ≠ g) => (HKB.out.far (p := ⟨dd, 0, none⟩) hbd (.int .u64 (s + j + 1))).far (p := ⟨g, 0, none⟩) hbg (.int .u64 (s + j + 1)))
          have hbd : bx ≠ dd := HKB.out.ne_type HR.out.dk (by decide)
          have hbg : bx ≠ g := HKB.out.ne_type HR.out.hs.blk (by decide)
          have HK3 := Lib.hid (HK2.out hbd hbg); clear HK2
          go_wp2_with fail
          refine wp_region_mix (fun w' => w'.cell? ⟨dd, 0, none⟩ = some (.int .u64 (s + j + 1))) [(0, true), (2, true), (3, true), (1, false), (4, true)] (by kernel_rfl) (by kernel_rfl) HZ.out ?_
          refine ord_still rfl rfl (fun K hK => ?_); apply Exists.intro; refine ⟨fun w' hw' => ?_, ?_⟩; (go_simp; first | done | exact ⟨rfl, rfl⟩ | exact rfl); (go_simp; refine hK _ ?_; clear hK K)
          refine ord_still rfl rfl (fun K hK => ?_); apply Exists.intro; refine ⟨fun w' hw' => ?_, ?_⟩; (go_simp; first | done | exact ⟨rfl, rfl⟩ | exact rfl); (go_simp; refine hK _ ?_; clear hK K)
          refine ord_still rfl rfl (fun K hK => ?_); apply Exists.intro; refine ⟨fun w' hw' => ?_, ?_⟩; (have z0 : w'.cell? ⟨dd, 0, none⟩ = some (.int .u64 (s + j + 1)) := hw'; clear hw'; go_simp; first | done | exact ⟨rfl, rfl⟩ | exact rfl); (go_simp; refine hK _ ?_; clear hK K)
          refine ord_sole rfl rfl (fun K hK => ?_); go_simp
          refine HAV.out.mono ?_
          rintro e u1 ⟨rfl, hu1⟩
          subst hu1
          have hc' : ((wr.setCell ⟨dd, 0, none⟩ (.int .u64 (s + j + 1))).drew.setCell ⟨g, 0, none⟩ (.int .u64 (s + j + 1))).cell? ⟨dd, 0, none⟩ = some (.int .u64 (s + j + 1)) := by
            rw [World.cell?_setCell_other _ _ _ _ (by intro e; cases e; exact HNE.out rfl)]; exact HZ.out
          refine ⟨_, rfl, hc', ?_⟩
          clear hc'
          go_simp
          refine hK _ _ ?_; clear hK K
          refine ord_still rfl rfl (fun K hK => ?_); apply Exists.intro; refine ⟨fun w' hw' => ?_, ?_⟩; (go_simp; first | done | exact ⟨rfl, rfl⟩ | exact rfl); (go_simp; refine hK _ ?_; clear hK K)
          refine ord_nil ?_
          intro hCx
          clear hCx
          go_wp2_with fail
          go_roundg (q - (j + 1))
          case measure => omega
          case rel => exact ⟨j + 1, rfl, by omega, by go_num, (show Hid _ from by rw [show (s + (j + 1 : Nat) : Int) = s + j + 1 by omega]; exact HADV.out.of_below ((RowKit.Below.refl _ _).drew)), (show Hid _ from HK3.out.drew)⟩
        · have hsq0 : 0 ≤ s + j := by omega
          have hsq : s + j ≤ 2 * L.length + 2 := by omega
          generalize s + (j : Int) = s1 at *
          go_upto_if 39 with fail
          go_cut [5, 18] from 18 to 71 (fun v5 iv wc => iv = .int .i64 L.length ∧ ∃ (g : Nat) (A : Option Addr) (c : Nat), v5 = .pointer (some ⟨g, 0, none⟩) ∧ Hid (HtIn W wc g dd s1 A c L ad cd) ∧ Hid (Blk wc bx 108 #[.int .u64 xst, .int .i64 xth, .int .i64 xkd, .int .i64 xop, .int .u64 xid, .int .i64 xer]) ∧ Hid (∀ k, (Value.slice A L.length c).ownBlock = some k → k ≠ bx))
          case first =>
            by_cases hk3 : L.length = 3
            · have hk3' : ((L.length : Int) == 3) = true := by rw [hk3]; rfl
              have HCL := Lib.hid (hist_Clone W.heap.size g s1 A c L wr HR.out.hs)
              have hwu : IntKind.u64.wrap (s1 + 1) = s1 + 1 := wrapU9 _ (by omega) (by omega)
              have hl3 : L.length < 1000 := by omega
              clear hk3
              go_wp2_with fail
              refine HCL.out.mono ?_
              rintro e w2 ⟨g2, A2, c2, rfl, hs2, hg2, hb2⟩
              have h2 := HR.out.of_below hb2
              have hav := hist_Advance g s1 (.slice A L.length c) w2 h2.hs.blk
              rw [hwu] at hav
              have hadd := hist_Add W.heap.size g (s1 + 1) A c L 9 9 9 9 9 (w2.setCell ⟨g, 0, none⟩ (.int .u64 (s1 + 1))) (h2.hs.step (s1 + 1)) (by rw [size_setCell]; exact h2.bl.size) hl3
              have HAV := Lib.hid hav; clear hav
              have HADD := Lib.hid hadd; clear hadd
              have HK2 := Lib.hid (HKB.out.of_below hb2)
              have HH2 := Lib.hid h2; clear h2
              have HS2 := Lib.hid hs2; clear hs2 hb2 HCL
              go_wp2_with fail
              refine HAV.out.mono ?_
              rintro e w3 ⟨rfl, hw3⟩
              subst hw3
              go_wp2_with fail
              refine HADD.out.mono ?_
              rintro e w4 ⟨rfl, A4, c4, hs4, hg4⟩
              have hfin : HtIn W w4 g2 dd s1 A2 c2 L ad cd ∧ Blk w4 bx 108 #[.int .u64 xst, .int .i64 xth, .int .i64 xkd, .int .i64 xop, .int .u64 xid, .int .i64 xer] ∧ (∀ k, (Value.slice A2 L.length c2).ownBlock = some k → k ≠ bx) := by
                have hgl := HR.out.hs.blk.lt
                have hbxl := HKB.out.lt
                have hg1 := Grew.set w2 ⟨g, 0, none⟩ (.int .u64 (s1 + 1))
                have hs3 := HH2.out.hs.step (s1 + 1)
                have hnk : ∀ z, wr.heap.size ≤ z → ¬ (z = g ∨ (Value.slice A L.length c).ownBlock = some z) := fun z hz e => by
                  rcases e with rfl | e
                  · omega
                  · have := own_lt9 HR.out.hs.row e; omega
                have hng : ∀ z, wr.heap.size ≤ z → ¬ z = g := fun z hz e => hnk z hz (.inl e)
                have hd3 := HH2.out.dk.grew hg1 (fun e => HH2.out.ne e.symm)
                have hr3 := own_grew HH2.out.dr hg1 (fun k hk e => own_apart HH2.out.dr HH2.out.hs.blk (by decide) (by rw [hk, e]))
                have hk3 := HK2.out.grew hg1 (fun e => HH2.out.hs.blk.ne_type HK2.out (by decide) e.symm)
                have hb3 := HH2.out.bl.setCell (p := ⟨g, 0, none⟩) HH2.out.gw (.int .u64 (s1 + 1))
                refine ⟨⟨⟨(HS2.out.blk.grew hg1 (hng _ hg2)).grew hg4 (hnk _ hg2), own_mono (own_grew (own_grew HS2.out.row hg1 (fun k hk => hng k (own_base HS2.out.row k hk))) hg4 (fun k hk => hnk k (own_base HS2.out.row k hk))) HR.out.bl.size, HS2.out.len⟩, Blk.keepHs hs3 hd3 (by decide) (fun k hk e => own_apart hs3.row hd3 (by decide) (by rw [hk, e])) hg4, own_keepHs hs3 hr3 (by decide) (by decide) hg4, Nat.le_trans HR.out.bl.size hg2, HR.out.dw, HsTo.below hs3 hb3 hg4 HR.out.gw (Nat.le_refl _) hb3.size⟩, Blk.keepHs hs3 hk3 (by decide) HNB.out hg4, fun k hk => ?_⟩
                have := own_base HS2.out.row k hk
                omega
              have HF1 := Lib.hid hfin.1
              have HF2 := Lib.hid hfin.2.1
              have HF3 := Lib.hid hfin.2.2
              clear hfin hs4 hg4 HADD HAV
              go_wp2_with fail
              go_meet
              exact ⟨rfl, g2, A2, c2, rfl, HF1, HF2, HF3⟩
            · have hk3' : ((L.length : Int) == 3) = false := by simp; omega
              go_wp2
              go_meet
              exact ⟨rfl, g, A, c, rfl, HR, HKB, HNB⟩
          case rest =>
            clear HR HKB HNB
            obtain ⟨rfl, g, A, c, rfl, HR, HKB, HNB⟩ := hcut
            have b1 := HKB.out.cell 1
            have b2 := HKB.out.cell 2
            have b3 := HKB.out.cell 3
            have b4 := HKB.out.cell 4
            have b5 := HKB.out.cell 5
            have bl := HKB.out.lt
            simp only [List.getElem?_toArray, List.getElem?_cons_zero, List.getElem?_cons_succ] at b1 b2 b3 b4 b5
            have hadd := hist_Add W.heap.size g s1 A c L xth xkd xop xid xer wc HR.out.hs HR.out.bl.size (by omega)
            have HADD := Lib.hid hadd; clear hadd
            go_wp2_with fail
            refine HADD.out.mono ?_
            rintro e w5 ⟨rfl, A5, c5, hs5, hg5⟩
            have hd5 := Blk.keepHs HR.out.hs HR.out.dk (by decide) (fun k hk e => own_apart HR.out.hs.row HR.out.dk (by decide) (by rw [hk, e])) hg5
            have hr5 := own_keepHs HR.out.hs HR.out.dr (by decide) (by decide) hg5
            have hk5 := Blk.keepHs HR.out.hs HKB.out (by decide) HNB.out hg5
            have hbl5 := HsTo.below HR.out.hs HR.out.bl hg5 HR.out.gw (Nat.le_refl _) HR.out.bl.size
            have hra := ref09_Add s1 ad cd L xth xkd xop xid xer w5 (own_rw hr5) (by omega)
            have HRA := Lib.hid hra; clear hra
            have p1 := hk5.cell 1
            have p2 := hk5.cell 2
            have p3 := hk5.cell 3
            have p4 := hk5.cell 4
            have p5 := hk5.cell 5
            have pl := hk5.lt
            have y0 := hd5.cell 0
            have y1 := hd5.cell 1
            have yl := hd5.lt
            simp only [List.getElem?_toArray, List.getElem?_cons_zero, List.getElem?_cons_succ] at p1 p2 p3 p4 p5 y0 y1
            have HS5 := Lib.hid hs5; clear hs5
            have HD5 := Lib.hid hd5; clear hd5 hk5 hr5 hg5
            have HBL5 := Lib.hid hbl5; clear hbl5 HADD b1 b2 b3 b4 b5
            go_wp2_with fail
            refine HRA.out.mono ?_
            rintro e w6 ⟨a6, c6, rfl, ho6, hb6⟩
            have hd6 := HD5.out.of_below hb6
            have hs6 := HS5.out.of_below hb6
            have u0 := hd6.frozen 0
            have u1 := hd6.frozen 1
            have t0 := hd6.cell 0
            have t1 := hd6.cell 1
            have ul := hd6.lt
            simp only [List.getElem?_toArray, List.getElem?_cons_zero, List.getElem?_cons_succ] at t0 t1
            have e1 : (L ++ [(⟨s1, xth, xkd, xop, xid, xer⟩ : Ev)]).length = L.length + 1 := by simp
            have HFIN := Lib.hid (show HtIn W ((w6.setCell ⟨dd, 0, none⟩ (.int .u64 s1)).setCell ⟨dd, 1, none⟩ (.slice a6 (L.length + 1) c6)) g dd s1 A5 c5 (L ++ [⟨s1, xth, xkd, xop, xid, xer⟩]) a6 c6 from by
              have hgr : Grew w6 ((w6.setCell ⟨dd, 0, none⟩ (.int .u64 s1)).setCell ⟨dd, 1, none⟩ (.slice a6 (L.length + 1) c6)) (· = dd) := (Grew.set w6 ⟨dd, 0, none⟩ _).trans (Grew.set _ ⟨dd, 1, none⟩ _) (fun k _ hk => hk)
              have hb6' := below_step HBL5.out HBL5.out.size hb6
              refine ⟨⟨hs6.blk.grew hgr (fun e => hs6.blk.ne_type hd6 (by decide) e), own_grew hs6.row hgr (fun k hk e => own_apart hs6.row hd6 (by decide) (by rw [hk, e])), hs6.len⟩, ?_, ?_, HR.out.gw, HR.out.dw, hgr.below hb6' (fun k _ hk => by rw [hk]; exact HR.out.dw) hb6'.size⟩
              · rw [e1]; exact (hd6.put 0 _).put 1 _
              · rw [e1]
                exact own_grew (own_mono ho6 HBL5.out.size) hgr (fun k hk e => own_apart ho6 hd6 (by decide) (by rw [hk, e])))
            clear hd6 hs6 ho6 hb6 HRA
            go_wp2_with fail
            go_roundg (xs.length - (L.length + 1))
            case measure => omega
            case rel =>
              refine ⟨L.length + 1, g, s1, A5, c5, L ++ [⟨s1, xth, xkd, xop, xid, xer⟩], a6, c6, rfl, by omega, rfl, by go_num, e1, hsq0, by omega, HFIN, (show Hid _ from fun x hx => ?_)⟩
              rcases List.mem_append.1 hx with hx | hx
              · exact HTI.out x hx
              · rw [List.mem_singleton.1 hx]; exact HTX.out
    · have hLx : L.length = xs.length := by omega
      have y0 := HR.out.dk
      have hxc : ∀ w', RowKit.Below wr.heap.size wr w' → w'.cell? ⟨dd, 0, none⟩ = some (.int .u64 s) ∧ w'.cell? ⟨dd, 1, none⟩ = some (.slice ad L.length cd) := fun w' hw' => by
        have := HR.out.dk.of_below hw'
        exact ⟨by rw [this.cell]; rfl, by rw [this.cell]; rfl⟩
      clear y0
      have HX := Lib.hid hxc; clear hxc
      have HP0 := Lib.hid (show RowKit.Below wr.heap.size wr wr.drew from (RowKit.Below.refl _ _).drew)
      have HL := Lib.hid (show L.length ≤ 1000 from by omega)
      have HPL := Lib.hid (show (pendF L L []).length ≤ 1000 from by have := pendF_len L L []; simp only [List.length_nil] at this; omega)
      clear hLx
      go_wp2_with fail
      refine wp_region_mix (fun w' => RowKit.Below wr.heap.size wr w') [(0, true), (3, true), (4, true), (1, false), (2, false), (5, false), (6, true), (7, true), (8, true), (10, true), (11, true), (9, false), (12, true), (13, true), (14, true), (15, true), (17, true), (18, true), (16, false), (19, false), (20, false), (21, true), (22, true)] (by kernel_rfl) (by kernel_rfl) HP0.out ?_
      refine ord_still rfl rfl (fun K hK => ?_); apply Exists.intro; refine ⟨fun w' hw' => ?_, ?_⟩; (obtain ⟨z0, z1⟩ := HX.out w' hw'; go_simp; first | done | exact ⟨rfl, rfl⟩ | exact rfl); (go_simp; refine hK _ ?_; clear hK K)
      refine ord_still rfl rfl (fun K hK => ?_); apply Exists.intro; refine ⟨fun w' hw' => ?_, ?_⟩; (obtain ⟨z0, z1⟩ := HX.out w' hw'; go_simp; first | done | exact ⟨rfl, rfl⟩ | exact rfl); (go_simp; refine hK _ ?_; clear hK K)
      refine ord_still rfl rfl (fun K hK => ?_); apply Exists.intro; refine ⟨fun w' hw' => ?_, ?_⟩; (obtain ⟨z0, z1⟩ := HX.out w' hw'; go_simp; first | done | exact ⟨rfl, rfl⟩ | exact rfl); (go_simp; refine hK _ ?_; clear hK K)
      refine ord_sole rfl rfl (fun K hK => ?_); go_simp
      refine (hist_All2 W.heap.size g s A c L _ (HR.out.hs.of_below HP0.out)).mono ?_
      rintro e u1 ⟨a1, c1, rfl, ho, hb⟩
      have hc' := below_step HP0.out HP0.out.size hb
      refine ⟨_, rfl, hc', ?_⟩
      go_simp
      refine hK _ _ ?_; clear hK K
      have HC1 := Lib.hid hc'; clear hc' hb
      have HO1 := Lib.hid ho; clear ho
      refine ord_sole rfl rfl (fun K hK => ?_); go_simp
      refine (law09_Of a1 c1 L u1 (own_rw HO1.out) HL.out).mono ?_
      rintro e u2 ⟨a2, c2, rfl, ho, hb⟩
      have hc' := below_step HC1.out HC1.out.size hb
      refine ⟨_, rfl, hc', ?_⟩
      go_simp
      refine hK _ _ ?_; clear hK K
      have HC2 := Lib.hid hc'; clear hc' hb
      have HO2 := Lib.hid ho; clear ho
      have heq := slices_Equal_revent a2 ad c2 cd L L u2 (own_rw HO2.out) ((own_rw HR.out.dr).below HC2.out) (by have := HL.out; omega) (by have := HL.out; omega)
      simp only [decide_true] at heq
      have HEQ := Lib.hid heq; clear heq
      refine ord_sole rfl rfl (fun K hK => ?_); go_simp
      refine (HEQ.out).mono ?_
      rintro e u3 ⟨rfl, q3, rfl⟩
      have hc' := below_drewN HC2.out q3
      refine ⟨_, rfl, hc', ?_⟩
      go_simp
      refine hK _ _ ?_; clear hK K
      have HC3 := Lib.hid hc'; clear hc' HEQ
      refine ord_still rfl rfl (fun K hK => ?_); apply Exists.intro; refine ⟨fun w' hw' => ?_, ?_⟩; (obtain ⟨z0, z1⟩ := HX.out w' hw'; go_simp; first | done | exact ⟨rfl, rfl⟩ | exact rfl); (go_simp; refine hK _ ?_; clear hK K)
      refine ord_still rfl rfl (fun K hK => ?_); apply Exists.intro; refine ⟨fun w' hw' => ?_, ?_⟩; (obtain ⟨z0, z1⟩ := HX.out w' hw'; go_simp; first | done | exact ⟨rfl, rfl⟩ | exact rfl); (go_simp; refine hK _ ?_; clear hK K)
      refine ord_still rfl rfl (fun K hK => ?_); apply Exists.intro; refine ⟨fun w' hw' => ?_, ?_⟩; (obtain ⟨z0, z1⟩ := HX.out w' hw'; go_simp; first | done | exact ⟨rfl, rfl⟩ | exact rfl); (go_simp; refine hK _ ?_; clear hK K)
      refine ord_still rfl rfl (fun K hK => ?_); apply Exists.intro; refine ⟨fun w' hw' => ?_, ?_⟩; (obtain ⟨z0, z1⟩ := HX.out w' hw'; go_simp; first | done | exact ⟨rfl, rfl⟩ | exact rfl); (go_simp; refine hK _ ?_; clear hK K)
      refine ord_still rfl rfl (fun K hK => ?_); apply Exists.intro; refine ⟨fun w' hw' => ?_, ?_⟩; (obtain ⟨z0, z1⟩ := HX.out w' hw'; go_simp; first | done | exact ⟨rfl, rfl⟩ | exact rfl); (go_simp; refine hK _ ?_; clear hK K)
      refine ord_sole rfl rfl (fun K hK => ?_); go_simp
      refine (hist_Now g s _ _ (HR.out.hs.blk.of_below HC3.out)).mono ?_
      rintro e u4 ⟨rfl, hq⟩
      rw [← hq]; clear hq u4
      have hc' := HC3.out
      refine ⟨_, rfl, hc', ?_⟩
      go_simp
      refine hK _ _ ?_; clear hK K
      clear hc'
      refine ord_still rfl rfl (fun K hK => ?_); apply Exists.intro; refine ⟨fun w' hw' => ?_, ?_⟩; (obtain ⟨z0, z1⟩ := HX.out w' hw'; go_simp; first | done | exact ⟨rfl, rfl⟩ | exact rfl); (go_simp; refine hK _ ?_; clear hK K)
      refine ord_still rfl rfl (fun K hK => ?_); apply Exists.intro; refine ⟨fun w' hw' => ?_, ?_⟩; (obtain ⟨z0, z1⟩ := HX.out w' hw'; go_simp; first | done | exact ⟨rfl, rfl⟩ | exact rfl); (go_simp; refine hK _ ?_; clear hK K)
      refine ord_still rfl rfl (fun K hK => ?_); apply Exists.intro; refine ⟨fun w' hw' => ?_, ?_⟩; (obtain ⟨z0, z1⟩ := HX.out w' hw'; go_simp; first | done | exact ⟨rfl, rfl⟩ | exact rfl); (go_simp; refine hK _ ?_; clear hK K)
      refine ord_still rfl rfl (fun K hK => ?_); apply Exists.intro; refine ⟨fun w' hw' => ?_, ?_⟩; (obtain ⟨z0, z1⟩ := HX.out w' hw'; go_simp; first | done | exact ⟨rfl, rfl⟩ | exact rfl); (go_simp; refine hK _ ?_; clear hK K)
      refine ord_still rfl rfl (fun K hK => ?_); apply Exists.intro; refine ⟨fun w' hw' => ?_, ?_⟩; (obtain ⟨z0, z1⟩ := HX.out w' hw'; go_simp; first | done | exact ⟨rfl, rfl⟩ | exact rfl); (go_simp; refine hK _ ?_; clear hK K)
      refine ord_still rfl rfl (fun K hK => ?_); apply Exists.intro; refine ⟨fun w' hw' => ?_, ?_⟩; (obtain ⟨z0, z1⟩ := HX.out w' hw'; go_simp; first | done | exact ⟨rfl, rfl⟩ | exact rfl); (go_simp; refine hK _ ?_; clear hK K)
      refine ord_sole rfl rfl (fun K hK => ?_); go_simp
      refine (hist_Pending W.heap.size g s A c L _ (HR.out.hs.of_below HC3.out) HTI.out).mono ?_
      rintro e u5 ⟨a5, c5, rfl, ho, hb⟩
      have hc' := below_step HC3.out HC3.out.size hb
      refine ⟨_, rfl, hc', ?_⟩
      go_simp
      refine hK _ _ ?_; clear hK K
      have HC5 := Lib.hid hc'; clear hc'
      have HO5 := Lib.hid ho; clear ho hb
      refine ord_sole rfl rfl (fun K hK => ?_); go_simp
      refine (ref09_Pending ad cd L u5 ((own_rw HR.out.dr).below HC5.out) HL.out).mono ?_
      rintro e u6 ⟨a6, c6, rfl, ho, hb⟩
      have hc' := below_step HC5.out HC5.out.size hb
      refine ⟨_, rfl, hc', ?_⟩
      go_simp
      refine hK _ _ ?_; clear hK K
      have HC6 := Lib.hid hc'; clear hc'
      have HO6 := Lib.hid ho; clear ho
      have HO5 := Lib.hid (HO5.out.below hb); clear hb
      have heq := slices_Equal_i64 a5 a6 c5 c6 (pendF L L []) (pendF L L []) u6 HO5.out HO6.out (by have := HPL.out; omega) (by have := HPL.out; omega)
      simp only [beq_self_eq_true] at heq
      have HEQ := Lib.hid heq; clear heq
      refine ord_sole rfl rfl (fun K hK => ?_); go_simp
      refine (HEQ.out).mono ?_
      rintro e u7 ⟨rfl, q7, rfl⟩
      have hc' := below_drewN HC6.out q7
      refine ⟨_, rfl, hc', ?_⟩
      go_simp
      refine hK _ _ ?_; clear hK K
      have HC7 := Lib.hid hc'; clear hc' HEQ
      refine ord_still rfl rfl (fun K hK => ?_); apply Exists.intro; refine ⟨fun w' hw' => ?_, ?_⟩; (obtain ⟨z0, z1⟩ := HX.out w' hw'; go_simp; first | done | exact ⟨rfl, rfl⟩ | exact rfl); (go_simp; refine hK _ ?_; clear hK K)
      refine ord_still rfl rfl (fun K hK => ?_); apply Exists.intro; refine ⟨fun w' hw' => ?_, ?_⟩; (obtain ⟨z0, z1⟩ := HX.out w' hw'; go_simp; first | done | exact ⟨rfl, rfl⟩ | exact rfl); (go_simp; refine hK _ ?_; clear hK K)
      refine ord_nil ?_
      intro hCx
      go_wp2_with fail
      have HV := Lib.hid (show RowKit.Below W.heap.size W _ from below_step HR.out.bl HR.out.bl.size HC7.out)
      clear HX HR HC1 HC2 HC3 HC5 HC6 HO1 HO2 HO5 HO6
      generalize u6.drewN q7 = V at *
      have HV0 := Lib.hid (show RowKit.Below V.heap.size V V.drew from (RowKit.Below.refl _ _).drew)
      have HPV := Lib.hid (HPW.out.below HV.out)
      have hec : ∀ w', RowKit.Below V.heap.size V w' → w'.cell? ⟨w.heap.size, 0, none⟩ = some (.int .u64 st) ∧ w'.cell? ⟨w.heap.size, 1, none⟩ = some (.int .i64 th) ∧ w'.cell? ⟨w.heap.size, 2, none⟩ = some (.int .i64 kd) ∧ w'.cell? ⟨w.heap.size, 3, none⟩ = some (.int .i64 op) ∧ w'.cell? ⟨w.heap.size, 4, none⟩ = some (.int .u64 id) ∧ w'.cell? ⟨w.heap.size, 5, none⟩ = some (.int .i64 er) := fun w' hw' => by
        have := (HEK.out.of_below HV.out).of_below hw'
        exact ⟨by rw [this.cell]; rfl, by rw [this.cell]; rfl, by rw [this.cell]; rfl, by rw [this.cell]; rfl, by rw [this.cell]; rfl, by rw [this.cell]; rfl⟩
      have HE := Lib.hid hec; clear hec
      refine wp_region_mixS (fun w' => RowKit.Below V.heap.size V w') (.calm 0 (.calm 2 (.calm 1 (.sole 3 (.sole 4 (.calm 5 (.sole 6 (.sole 7 (.calm 8 (.calm 9 .nil)))))))))) (by kernel_rfl) (by kernel_rfl) HV0.out ?_
      refine os_still rfl rfl (fun K hK => ?_); apply Exists.intro; refine ⟨fun w' hw' => ?_, ?_⟩; (obtain ⟨z0, z1, z2, z3, z4, z5⟩ := HE.out w' hw'; go_simp; first | done | exact ⟨rfl, rfl⟩ | exact rfl); (go_simp; refine hK _ (fun v1 hC1 hu1 => ?_); clear hK K)
      have HC := Lib.hid hC1; clear hC1
      clear hu1
      refine os_still rfl rfl (fun K hK => ?_); apply Exists.intro; refine ⟨fun w' hw' => ?_, ?_⟩; (obtain ⟨z0, z1, z2, z3, z4, z5⟩ := HE.out w' hw'; go_simp; first | done | exact ⟨rfl, rfl⟩ | exact rfl); (go_simp; refine hK _ (fun v2 hC1 hu1 => ?_); clear hK K)
      have HC := Lib.hid hC1; clear hC1
      clear hu1
      refine os_calm rfl rfl (fun K hK => ?_); apply Exists.intro; refine ⟨fun w' hw' => ?_, ?_⟩
      · go_simp
        refine (hist_Text st th kd op id er he.1 he.2.1 he.2.2.2.2.1 he.2.2.2.2.2 w' (HPV.out.below hw')).mono ?_
        rintro e w'' ⟨rfl, hb⟩
        exact ⟨rfl, below_step hw' hw'.size hb, hb⟩
      go_simp; refine hK _ (fun v3 hC1 hu1 => ?_); clear hK K
      have HC := Lib.hid hC1; clear hC1 hu1
      refine os_sole rfl rfl (fun K hK => ?_)
      go_simp
      refine ⟨HC.out.alloc HC.out.size _, ?_⟩
      refine hK _ _ (fun v4 hC1 hu1 => ?_); clear hK K
      have HB3 := Lib.hid (Blk.of_below (Blk.new v3 108 #[.int .u64 st, .int .i64 th, .int .i64 kd, .int .i64 op, .int .u64 id, .int .i64 er]) hu1)
      have HC := Lib.hid hC1; clear hC1 hu1
      have hrw : Rw Ev.cells 6 v4 (some ⟨v3.heap.size, 0, none⟩) 1 [⟨st, th, kd, op, id, er⟩] := evOne HB3.out
      have hof := law09_Of (some ⟨v3.heap.size, 0, none⟩) 1 [⟨st, th, kd, op, id, er⟩] v4 hrw (by simp)
      have HOF := Lib.hid hof; clear hof hrw
      refine os_sole rfl rfl (fun K hK => ?_)
      go_simp
      refine HOF.out.mono ?_
      rintro e v5 ⟨a5, c5, rfl, ho5, hb5⟩
      have hc' := below_step HC.out HC.out.size hb5
      refine ⟨_, rfl, hc', ?_⟩
      clear hc' hb5
      obtain ⟨bo, cur, rfl, -, hk5, -, -, -, hcu⟩ := own_at ho5 (by simp)
      have HO5 := Lib.hid (evCells ho5 hk5 hcu)
      clear ho5 hk5 hcu HOF HB3
      go_simp
      refine hK _ _ (fun v6 hC1 hu1 => ?_); clear hK K
      have HO5 := Lib.hid (fun w' (h : Up v6 w') => HO5.out w' (hu1.trans h))
      have HC := Lib.hid hC1; clear hC1 hu1
      refine os_still rfl rfl (fun K hK => ?_); apply Exists.intro; refine ⟨fun w' hw' => ?_, ?_⟩; (go_simp; first | done | exact ⟨rfl, rfl⟩ | exact rfl); (go_simp; refine hK _ (fun v7 hC1 hu1 => ?_); clear hK K)
      have HC := Lib.hid hC1; clear hC1
      obtain ⟨z0, z1, z2, z3, z4, z5⟩ := HO5.out v7 hu1
      clear hu1
      refine os_sole rfl rfl (fun K hK => ?_)
      go_simp
      refine ⟨HC.out, ?_⟩
      refine hK _ _ (fun v8 hC1 hu1 => ?_); clear hK K
      have HC := Lib.hid hC1; clear hC1 hu1 z0 z1 z2 z3 z4 z5 HO5
      refine os_sole rfl rfl (fun K hK => ?_)
      go_simp
      refine (ref09_Text st th kd op id er he.1 he.2.1 he.2.2.2.2.1 he.2.2.2.2.2 v8 (HPV.out.below HC.out)).mono ?_
      rintro e v9 ⟨rfl, hb⟩
      have hc' := below_step HC.out HC.out.size hb
      refine ⟨_, rfl, hc', ?_⟩
      clear hc' hb
      go_simp
      refine hK _ _ (fun v10 hC1 hu1 => ?_); clear hK K
      have HC := Lib.hid hC1; clear hC1 hu1
      refine os_still rfl rfl (fun K hK => ?_); apply Exists.intro; refine ⟨fun w' hw' => ?_, ?_⟩; (go_simp; first | done | exact ⟨rfl, rfl⟩ | exact rfl); (go_simp; refine hK _ (fun v11 hC1 hu1 => ?_); clear hK K)
      have HC := Lib.hid hC1; clear hC1 hu1
      refine os_still rfl rfl (fun K hK => ?_); apply Exists.intro; refine ⟨fun w' hw' => ?_, ?_⟩; (go_simp; first | done | exact ⟨rfl, rfl⟩ | exact rfl); (go_simp; refine hK _ (fun v12 hC1 hu1 => ?_); clear hK K)
      have HC := Lib.hid hC1; clear hC1 hu1
      refine os_nil ?_
      intro hCx
      go_wp2
      go_ret
      exact ⟨ret_bool (by simp), below_step HB0.out HB0.out.size (below_step HV.out HV.out.size HC.out)⟩
end Go.Proofs.YtonfaojmphidpaaGreatDoor
