/- Chapter 9: the document's open and Add, the law's Of, hist's Clone. -/
import Derived.Test.YtonfaojmphidpaaGreatDoorHisL
import Derived.Test.YtonfaojmphidpaaGreatDoorHistP
import Derived.OwnWalk
namespace Go.Proofs.YtonfaojmphidpaaGreatDoor
open Go.RowKit
set_option linter.unusedVariables false
set_option linter.unusedSimpArgs false

theorem Blk.of_grown {w w' : World} {g : Nat} {t : TypeId} {cs : Array Value} {r : Option Nat} (h : Blk w g t cs) (hg : w.grownBy w' r) (hn : some g ≠ r) : Blk w' g t cs := (hg.block g h.lt hn).trans h
theorem Tryz.infoREv : (Tryz.prog.info? 118).map (fun i => (i.zero, i.size, i.bytes)) = some (some (.agg #[.int .u64 0, .int .i64 0, .int .i64 0, .int .i64 0, .int .u64 0, .int .i64 0]), 6, 48) := by kernel_rfl

set_option maxHeartbeats 4000000 in
theorem ref09_open (a : Option Addr) (cap : Nat) (L : List Ev) (th : Int) (w : World) (h : Rw Ev.cells 6 w a cap L) (hl : L.length ≤ 1000) :
    Calls Tryz.prog 96 #[.slice a L.length cap, .int .i64 th] w fun e w' => e = .returned (.int .i64 (cntL L th)) ∧ RowKit.Below w.heap.size w w' := by
  go_enter Tryz.func96, Tryz.ntmps96
  go_wp2
  go_loopg [5, 10] L.length (fun gg n i wr => ∃ kk : Nat, kk ≤ L.length ∧ gg = L.length - kk ∧ i = .int .i64 kk ∧ n = .int .i64 (cntL (L.take kk) th) ∧ Hid (RowKit.Below w.heap.size w wr))
  case atStart => exact ⟨0, Nat.zero_le _, rfl, rfl, rfl, Below.refl _ w⟩
  case round =>
    obtain ⟨kk, hkk, rfl, rfl, rfl, BW⟩ := hrel
    have hcb := cntL_bound (L.take kk) th
    have htl : (L.take kk).length ≤ 1000 := by have := List.length_take_le kk L; omega
    by_cases hlt : kk < L.length
    · obtain ⟨b, off, rfl, hb, hc⟩ := h.at_ Ev.cells_length (by omega)
      obtain ⟨y, hy⟩ : ∃ y, L[kk]? = some y := ⟨_, List.getElem?_eq_getElem hlt⟩
      obtain ⟨y0, y1, y2, y3, y4, y5⟩ := y
      have c0 : wr.cell? ⟨b, off + kk * 6, none⟩ = some (.int .u64 y0) := (BW.out.cell (p := ⟨b, off + kk * 6, none⟩) hb).trans (hc kk _ hy 0 _ rfl)
      have c1 : wr.cell? ⟨b, off + kk * 6 + 1, none⟩ = some (.int .i64 y1) := (BW.out.cell (p := ⟨b, off + kk * 6 + 1, none⟩) hb).trans (hc kk _ hy 1 _ rfl)
      have c2 : wr.cell? ⟨b, off + kk * 6 + 2, none⟩ = some (.int .i64 y2) := (BW.out.cell (p := ⟨b, off + kk * 6 + 2, none⟩) hb).trans (hc kk _ hy 2 _ rfl)
      have c3 : wr.cell? ⟨b, off + kk * 6 + 3, none⟩ = some (.int .i64 y3) := (BW.out.cell (p := ⟨b, off + kk * 6 + 3, none⟩) hb).trans (hc kk _ hy 3 _ rfl)
      have c4 : wr.cell? ⟨b, off + kk * 6 + 4, none⟩ = some (.int .u64 y4) := (BW.out.cell (p := ⟨b, off + kk * 6 + 4, none⟩) hb).trans (hc kk _ hy 4 _ rfl)
      have c5 : wr.cell? ⟨b, off + kk * 6 + 5, none⟩ = some (.int .i64 y5) := (BW.out.cell (p := ⟨b, off + kk * 6 + 5, none⟩) hb).trans (hc kk _ hy 5 _ rfl)
      clear hc
      have hnx : cntL (L.take (kk + 1)) th = cntL (L.take kk) th + evD ⟨y0, y1, y2, y3, y4, y5⟩ th := by rw [take_snoc2 hy, cntL_snoc]
      have HNX := Lib.hid hnx; clear hnx hy
      generalize cntL (L.take kk) th = c at *
      by_cases e1 : y1 = th
      · have q1 : (y1 == th) = true := by simpa using e1
        by_cases e2 : y2 = 0
        · have hev : evD ⟨y0, y1, y2, y3, y4, y5⟩ th = 1 := by simp [evD, e1, e2]
          have HEV := Lib.hid hev; clear hev
          subst e2
          clear e1
          go_wp2
          go_roundg (L.length - (kk + 1))
          case measure => omega
          case rel => exact ⟨kk + 1, by omega, rfl, by go_num, by rw [HNX.out, HEV.out] <;> go_num, BW.out.alloc BW.out.size _⟩
        · have q2 : (y2 == 0) = false := by simpa using e2
          by_cases e3 : y2 = 2
          · have hev : evD ⟨y0, y1, y2, y3, y4, y5⟩ th = -1 := by simp [evD, e1, e2, e3]
            have HEV := Lib.hid hev; clear hev
            subst e3
            clear e1 e2 q2
            go_wp2
            go_roundg (L.length - (kk + 1))
            case measure => omega
            case rel => exact ⟨kk + 1, by omega, rfl, by go_num, by rw [HNX.out, HEV.out] <;> go_num, BW.out.alloc BW.out.size _⟩
          · have q3 : (y2 == 2) = false := by simpa using e3
            have hev : evD ⟨y0, y1, y2, y3, y4, y5⟩ th = 0 := by simp [evD, e1, e2, e3]
            have HEV := Lib.hid hev; clear hev
            clear e1 e2 e3
            go_wp2
            go_roundg (L.length - (kk + 1))
            case measure => omega
            case rel => exact ⟨kk + 1, by omega, rfl, by go_num, by rw [HNX.out, HEV.out, Int.add_zero], BW.out.alloc BW.out.size _⟩
      · have q1 : (y1 == th) = false := by simpa using e1
        have hev : evD ⟨y0, y1, y2, y3, y4, y5⟩ th = 0 := by simp [evD, e1]
        have HEV := Lib.hid hev; clear hev e1
        go_wp2
        go_roundg (L.length - (kk + 1))
        case measure => omega
        case rel => exact ⟨kk + 1, by omega, rfl, by go_num, by rw [HNX.out, HEV.out, Int.add_zero], BW.out.alloc BW.out.size _⟩
    · have : kk = L.length := by omega
      subst this
      rw [List.take_length]
      go_wp2
      go_ret
      exact ⟨rfl, BW.out⟩

set_option maxRecDepth 100000 in
set_option maxHeartbeats 4000000 in
theorem ref09_Add (s : Int) (a : Option Addr) (cap : Nat) (L : List Ev) (th kd op id er : Int) (w : World) (h : Rw Ev.cells 6 w a cap L) (hl : L.length ≤ 1000) :
    Calls Tryz.prog 64 #[.agg #[.int .u64 s, .slice a L.length cap], .int .i64 th, .int .i64 kd, .int .i64 op, .int .u64 id, .int .i64 er] w fun e w' => ∃ a' c', e = .returned (.agg #[.int .u64 s, .slice a' (L.length + 1) c']) ∧ w'.ownsRow w.heap.size 118 6 (.slice a' (L.length + 1) c') (L.length + 1) (cellsOf Ev.cells (L ++ [⟨s, th, kd, op, id, er⟩])) ∧ RowKit.Below w.heap.size w w' := by
  have ha1 := (RowKit.Below.refl w.heap.size w).alloc (Nat.le_refl _) (.cells #[.int .u64 s, .slice a L.length cap] 113)
  have ha2 := ha1.alloc ha1.size (.cells #[.int .u64 0, .slice none 0 0] 113)
  have k1 := (Blk.new w 113 #[.int .u64 s, .slice a L.length cap]).alloc (.cells #[.int .u64 0, .slice none 0 0] 113)
  have k2 := Blk.new (w.alloc (.cells #[.int .u64 s, .slice a L.length cap] 113)) 113 #[.int .u64 0, .slice none 0 0]
  rw [size_alloc] at k2
  have HRD := Lib.hid (h.below ha2).rd
  have HN1 := Lib.hid (World.ownsRow_nil ((w.alloc (.cells #[.int .u64 s, .slice a L.length cap] 113)).alloc (.cells #[.int .u64 0, .slice none 0 0] 113)) w.heap.size 118 6)
  have HA2 := Lib.hid ha2; clear ha2 ha1 h
  have HK1 := Lib.hid k1; clear k1
  have HK2 := Lib.hid k2; clear k2
  have hbs : w.heap.size ≤ ((w.alloc (.cells #[.int .u64 s, .slice a L.length cap] 113)).alloc (.cells #[.int .u64 0, .slice none 0 0] 113)).heap.size := HA2.out.size
  go_enter Tryz.func64, Tryz.ntmps64
  go_wp2_with (first
    | (at_builtin; refine app_own _ rfl _ _ 111 rfl w.heap.size 118 (.agg #[.int .u64 0, .int .i64 0, .int .i64 0, .int .i64 0, .int .u64 0, .int .i64 0]) 6 48 Tryz.underlying111 Tryz.infoREv rfl (by decide) (.slice none 0 0) 0 [] rfl HN1.out a L.length cap _ rfl HRD.out (cellsOf_one Ev.cells_one L) (by omega) (by omega) hbs ?_; intro A2 c2 w2 h2 h3 h4; rw [Nat.zero_add, List.nil_append] at h2; have hs2 := Nat.le_trans hbs h3.size; have k1 := Blk.of_grown HK1.out h3 (by simp [Value.ownBlock]); have p0 := k1.cell 0; have p1 := k1.cell 1; have l1 := k1.lt; simp only [List.getElem?_toArray, List.getElem?_cons_zero, List.getElem?_cons_succ] at p0 p1; have K1 := Lib.hid k1; clear k1; have K2 := Lib.hid (Blk.of_grown HK2.out h3 (by simp [Value.ownBlock])); have H2 := Lib.hid h2; clear h2; have H3 := Lib.hid h3; clear h3 h4)
    | (at_builtin; refine app_one w2 rfl (.tmp 18) (.tmp 27) 111 rfl w.heap.size 118 (.agg #[.int .u64 0, .int .i64 0, .int .i64 0, .int .i64 0, .int .u64 0, .int .i64 0]) 6 48 Tryz.underlying111 Tryz.infoREv rfl (by decide) (.slice A2 L.length c2) L.length _ rfl H2.out [.int .u64 s, .int .i64 th, .int .i64 kd, .int .i64 op, .int .u64 id, .int .i64 er] rfl rfl (by simp [Value.oneCell']) (by omega) (by omega) hs2 ?_; intro A3 c3 w3 h6 h7 h8; have k1 := Blk.of_grown K1.out h7 (fun e => own_apart H2.out K1.out (by decide) e.symm); have k2 := Blk.of_grown K2.out h7 (fun e => own_apart H2.out K2.out (by decide) e.symm); have q0 := k1.cell 0; have q1 := k1.cell 1; have q2 := k1.frozen 1; have q3 := k1.lt; have r0 := k2.cell 0; have r1 := k2.cell 1; have r2 := k2.frozen 0; have r3 := k2.frozen 1; have r4 := k2.lt; simp only [List.getElem?_toArray, List.getElem?_cons_zero, List.getElem?_cons_succ] at q0 q1 r0 r1; have T1 := Lib.hid k1; clear k1; have T2 := Lib.hid k2; clear k2; have H6 := Lib.hid h6; clear h6; have H7 := Lib.hid h7; clear h7 h8))
  have hgr : Grew w3 (((w3.setCell ⟨w.heap.size, 1, none⟩ (.slice A3 (L.length + 1) c3)).setCell ⟨w.heap.size + 1, 0, none⟩ (.int .u64 s)).setCell ⟨w.heap.size + 1, 1, none⟩ (.slice A3 (L.length + 1) c3)) (fun k => k = w.heap.size ∨ k = w.heap.size + 1) :=
    ((Grew.set w3 ⟨w.heap.size, 1, none⟩ _).mono (fun k _ hk => .inl hk)).trans ((Grew.set _ ⟨w.heap.size + 1, 0, none⟩ _).trans (Grew.set _ ⟨w.heap.size + 1, 1, none⟩ _) (fun k _ hk => hk)) (fun k _ hk => .inr hk)
  have hb2 := HA2.out.grown H3.out HA2.out.size (fun z hz => by simp [Value.ownBlock] at hz)
  have hb3 := hb2.grown H7.out hb2.size (fun z hz => own_base H2.out z hz)
  have e2 : cellsOf Ev.cells (L ++ [(⟨s, th, kd, op, id, er⟩ : Ev)]) = cellsOf Ev.cells L ++ [.int .u64 s, .int .i64 th, .int .i64 kd, .int .i64 op, .int .u64 id, .int .i64 er] := by rw [cellsOf_snoc]; rfl
  refine bodyPost_ret (v := .agg #[.int .u64 s, .slice A3 (L.length + 1) c3]) (by simp [results, Tryz.results64, go_sem, r0, r1]) rfl ⟨_, _, rfl, ?_, ?_⟩
  · rw [e2]
    exact own_grew H6.out hgr (fun k hk e => by
      rcases e with rfl | rfl
      · exact own_apart H6.out T1.out (by decide) hk
      · exact own_apart H6.out T2.out (by decide) hk)
  · exact hgr.below hb3 (fun k _ hk => by omega) hb3.size

/-- The law's Of: the same events in a row of its own. -/
theorem law09_Of (a : Option Addr) (cap : Nat) (L : List Ev) (w : World) (h : Rw Ev.cells 6 w a cap L) (hl : L.length ≤ 1000) :
    Calls Tryz.prog 66 #[.slice a L.length cap] w fun e w' => ∃ a' c', e = .returned (.slice a' L.length c') ∧ w'.ownsRow w.heap.size 118 6 (.slice a' L.length c') L.length (cellsOf Ev.cells L) ∧ RowKit.Below w.heap.size w w' := by
  go_enter Tryz.func66, Tryz.ntmps66
  go_wp2
  go_loopg [3, 8] L.length (fun gg v i wr => ∃ (kk : Nat) (a' : Option Addr) (c' : Nat), kk ≤ L.length ∧ gg = L.length - kk ∧ i = .int .i64 kk ∧ v = .slice a' kk c' ∧ Hid (wr.ownsRow w.heap.size 118 6 (.slice a' kk c') kk (cellsOf Ev.cells (L.take kk))) ∧ Hid (RowKit.Below w.heap.size w wr))
  case atStart => exact ⟨0, none, 0, Nat.zero_le _, rfl, rfl, rfl, World.ownsRow_nil _ _ _ _, Below.refl _ w⟩
  case round =>
    obtain ⟨kk, a', c', hkk, rfl, rfl, rfl, HO, BW⟩ := hrel
    by_cases hlt : kk < L.length
    · obtain ⟨b, off, rfl, hb, hc⟩ := h.at_ Ev.cells_length (by omega)
      obtain ⟨y, hy⟩ : ∃ y, L[kk]? = some y := ⟨_, List.getElem?_eq_getElem hlt⟩
      obtain ⟨y0, y1, y2, y3, y4, y5⟩ := y
      have c0 : wr.cell? ⟨b, off + kk * 6, none⟩ = some (.int .u64 y0) := (BW.out.cell (p := ⟨b, off + kk * 6, none⟩) hb).trans (hc kk _ hy 0 _ rfl)
      have c1 : wr.cell? ⟨b, off + kk * 6 + 1, none⟩ = some (.int .i64 y1) := (BW.out.cell (p := ⟨b, off + kk * 6 + 1, none⟩) hb).trans (hc kk _ hy 1 _ rfl)
      have c2 : wr.cell? ⟨b, off + kk * 6 + 2, none⟩ = some (.int .i64 y2) := (BW.out.cell (p := ⟨b, off + kk * 6 + 2, none⟩) hb).trans (hc kk _ hy 2 _ rfl)
      have c3 : wr.cell? ⟨b, off + kk * 6 + 3, none⟩ = some (.int .i64 y3) := (BW.out.cell (p := ⟨b, off + kk * 6 + 3, none⟩) hb).trans (hc kk _ hy 3 _ rfl)
      have c4 : wr.cell? ⟨b, off + kk * 6 + 4, none⟩ = some (.int .u64 y4) := (BW.out.cell (p := ⟨b, off + kk * 6 + 4, none⟩) hb).trans (hc kk _ hy 4 _ rfl)
      have c5 : wr.cell? ⟨b, off + kk * 6 + 5, none⟩ = some (.int .i64 y5) := (BW.out.cell (p := ⟨b, off + kk * 6 + 5, none⟩) hb).trans (hc kk _ hy 5 _ rfl)
      clear hc
      have hnx : cellsOf Ev.cells (L.take (kk + 1)) = cellsOf Ev.cells (L.take kk) ++ [.int .u64 y0, .int .i64 y1, .int .i64 y2, .int .i64 y3, .int .u64 y4, .int .i64 y5] := by rw [take_snoc2 hy, cellsOf_snoc]; rfl
      have HNX := Lib.hid hnx; clear hnx hy
      have HOA := Lib.hid (HO.out.alloc (.cells #[.int .u64 y0, .int .i64 y1, .int .i64 y2, .int .i64 y3, .int .u64 y4, .int .i64 y5] 108))
      have HBA := Lib.hid (BW.out.alloc BW.out.size (.cells #[.int .u64 y0, .int .i64 y1, .int .i64 y2, .int .i64 y3, .int .u64 y4, .int .i64 y5] 108))
      have HKA := Lib.hid (Blk.new wr 108 #[.int .u64 y0, .int .i64 y1, .int .i64 y2, .int .i64 y3, .int .u64 y4, .int .i64 y5])
      go_upto_region 5 with fail
      generalize wr.alloc (.cells #[.int .u64 y0, .int .i64 y1, .int .i64 y2, .int .i64 y3, .int .u64 y4, .int .i64 y5] 108) = wa at *
      clear c0 c1 c2 c3 c4 c5 BW HO
      generalize wr.heap.size = ba at *
      have x0 := HKA.out.cell 0
      have x1 := HKA.out.cell 1
      have x2 := HKA.out.cell 2
      have x3 := HKA.out.cell 3
      have x4 := HKA.out.cell 4
      have x5 := HKA.out.cell 5
      have xl := HKA.out.lt
      have hsa : w.heap.size ≤ wa.heap.size := HBA.out.size
      simp only [List.getElem?_toArray, List.getElem?_cons_zero, List.getElem?_cons_succ] at x0 x1 x2 x3 x4 x5
      go_wp2_with (at_builtin; refine app_one wa rfl (.tmp 12) (.tmp 26) 111 rfl w.heap.size 118 (.agg #[.int .u64 0, .int .i64 0, .int .i64 0, .int .i64 0, .int .u64 0, .int .i64 0]) 6 48 Tryz.underlying111 Tryz.infoREv rfl (by decide) (.slice a' kk c') kk _ rfl HOA.out [.int .u64 y0, .int .i64 y1, .int .i64 y2, .int .i64 y3, .int .u64 y4, .int .i64 y5] rfl rfl (by simp [Value.oneCell']) (by omega) (by omega) hsa ?_; intro A3 c3 w3 h6 h7 h8; rw [← HNX.out] at h6; have hb3 := HBA.out.grown h7 hsa (fun z hz => own_base HOA.out z hz); have H6 := Lib.hid h6; clear h6; have HB3 := Lib.hid hb3; clear hb3 h7 h8)
      go_roundg (L.length - (kk + 1))
      case measure => omega
      case rel => exact ⟨kk + 1, A3, c3, by omega, rfl, by go_num, rfl, H6, HB3⟩
    · have : kk = L.length := by omega
      subst this
      go_wp2
      go_ret
      exact ⟨a', c', rfl, by have := HO.out; rw [List.take_length] at this; exact this, BW.out⟩

set_option maxRecDepth 100000 in
set_option maxHeartbeats 2000000 in
theorem hist_Clone (B g : Nat) (s : Int) (A : Option Addr) (c : Nat) (L : List Ev) (w : World) (h : Hs w B g s A c L) :
    Calls Tryz.prog 62 #[.pointer (some ⟨g, 0, none⟩)] w fun e w' => ∃ g' A' c', e = .returned (.pointer (some ⟨g', 0, none⟩)) ∧ Hs w' w.heap.size g' s A' c' L ∧ w.heap.size ≤ g' ∧ RowKit.Below w.heap.size w w' := by
  have hlen := h.len
  have hcl := fun w' (hb : RowKit.Below w.heap.size w w') => slices_Clone_event A L.length c _ w' (h.of_below hb).rw.rd (cellsOf_one Ev.cells_one L) (by omega)
  have HCL := Lib.hid hcl; clear hcl
  have hxc : ∀ w', RowKit.Below w.heap.size w w' → w'.cell? ⟨g, 0, none⟩ = some (.int .u64 s) ∧ w'.cell? ⟨g, 1, none⟩ = some (.slice A L.length c) := fun w' hw' => by
    have := h.blk.of_below hw'
    exact ⟨by rw [this.cell]; rfl, by rw [this.cell]; rfl⟩
  have HX := Lib.hid hxc; clear hxc
  have HP0 := Lib.hid (show RowKit.Below w.heap.size w w.drew from (RowKit.Below.refl _ _).drew)
  clear h
  go_enter Tryz.func62, Tryz.ntmps62
  go_wp2_with fail
  refine wp_region_mix (fun w' => RowKit.Below w.heap.size w w') [(0, true), (1, true), (2, true), (3, true), (4, true), (5, true), (6, true), (7, true), (8, false), (9, true), (10, false), (11, true)] (by kernel_rfl) (by kernel_rfl) HP0.out ?_
  iterate 8 (refine ord_still rfl rfl (fun K hK => ?_); apply Exists.intro; refine ⟨fun w' hw' => ?_, ?_⟩; (obtain ⟨z0, z1⟩ := HX.out w' hw'; go_simp; first | done | exact ⟨rfl, rfl⟩ | exact rfl); (go_simp; refine hK _ ?_; clear hK K))
  refine ord_sole rfl rfl (fun K hK => ?_); go_simp
  refine (HCL.out _ HP0.out).mono ?_
  rintro e u1 ⟨a', c', rfl, ho, -, hb⟩
  have hc' := below_step HP0.out HP0.out.size hb
  refine ⟨_, rfl, hc', ?_⟩
  have HC1 := Lib.hid hc'; clear hc'
  have HO := Lib.hid (own_mono ho HP0.out.size); clear ho hb
  go_simp
  refine hK _ _ ?_; clear hK K
  refine ord_still rfl rfl (fun K hK => ?_); apply Exists.intro; refine ⟨fun w' hw' => ?_, ?_⟩; (go_simp; first | done | exact ⟨rfl, rfl⟩ | exact rfl); (go_simp; refine hK _ ?_; clear hK K)
  refine ord_sole rfl rfl (fun K hK => ?_); go_simp
  have hc5 := HC1.out.alloc HC1.out.size (.cells #[.int .u64 s, .slice a' L.length c'] 151)
  refine ⟨hc5, ?_⟩
  have HC5 := Lib.hid hc5; clear hc5
  refine hK _ _ ?_; clear hK K
  refine ord_still rfl rfl (fun K hK => ?_); apply Exists.intro; refine ⟨fun w' hw' => ?_, ?_⟩; (go_simp; first | done | exact ⟨rfl, rfl⟩ | exact rfl); (go_simp; refine hK _ ?_; clear hK K)
  refine ord_nil ?_
  intro hCx
  go_wp2
  go_ret
  exact ⟨u1.heap.size, a', c', rfl, ⟨Blk.new _ _ _, HO.out.alloc _, hlen⟩, HC1.out.size, HC5.out⟩
end Go.Proofs.YtonfaojmphidpaaGreatDoor
