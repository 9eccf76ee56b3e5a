/- The walk of layer 11's law SlotsPlay. -/
import Derived.Test.YtonfaojmphidpaaGreatDoorSlSum
import Derived.Test.YtonfaojmphidpaaGreatDoorFacP
import Derived.Deep.CutRange
import Derived.Deep.CutBlock
namespace Go.Proofs.YtonfaojmphidpaaGreatDoor
open Go.RowKit Go.ChangeShapes Go.WideShapes
set_option linter.unusedVariables false
set_option linter.unusedSimpArgs false

/-- An act of layer 11's laws. -/
structure PAct where
  do_ : Int
  th : Int
  n : Int
instance : Inhabited PAct := ⟨⟨0, 0, 0⟩⟩
def PActsIn (w : World) (a : Option Addr) (n : Nat) (xs : List PAct) : Prop :=
  xs.length = n ∧ n ≤ 9223372036854775807 ∧ (∀ x ∈ xs, 0 ≤ x.do_ ∧ x.do_ < 256) ∧ (0 < n → ∃ b off, a = some ⟨b, off, none⟩ ∧ b < w.heap.size ∧ ∀ i, i < n →
    w.cell? ⟨b, off + i * 3, none⟩ = some (.int .u8 (xs.getD i default).do_) ∧ w.cell? ⟨b, off + i * 3 + 1, none⟩ = some (.int .i64 (xs.getD i default).th) ∧ w.cell? ⟨b, off + i * 3 + 2, none⟩ = some (.int .u64 (xs.getD i default).n))
theorem open_hackneylaw11_Act {H : Type} {enc : TypeId × Value → H} {w : World} {base : Nat} {sp : Nat → Bool} {held : Bool} {a : Option Addr} {len cap : Nat} {d : DataW H} {p : List MemPlace}
    (h : DataW.Trod enc Tryz.prog w base sp held 64 (.slice a len cap) d p) : ∃ xs, PActsIn w a len xs := by
  obtain ⟨hn, hc⟩ := open_cells Tryz.underlying64 Tryz.underlying67 (by kernel_rfl) (by kernel_rfl) (by decide) h
  by_cases h0 : 0 < len
  · obtain ⟨b, off, ha, hb, hi⟩ := hc h0
    obtain ⟨xs, hl, hq⟩ := gather (Q := fun i (x : PAct) => (0 ≤ x.do_ ∧ x.do_ < 256) ∧
        w.cell? ⟨b, off + i * 3, none⟩ = some (.int .u8 x.do_) ∧ w.cell? ⟨b, off + i * 3 + 1, none⟩ = some (.int .i64 x.th) ∧ w.cell? ⟨b, off + i * 3 + 2, none⟩ = some (.int .u64 x.n)) len (by
      intro i hil
      obtain ⟨v0, x0, n0, c0, t0⟩ := hi i hil 0 _ rfl
      obtain ⟨v1, x1, n1, c1, t1⟩ := hi i hil 1 _ rfl
      obtain ⟨v2, x2, n2, c2, t2⟩ := hi i hil 2 _ rfl
      obtain ⟨m0, e0, _, f0⟩ := DataW.trod_int Tryz.underlying5 t0
      obtain ⟨m1, e1, _, f1⟩ := DataW.trod_int Tryz.underlying3 t1
      obtain ⟨m2, e2, _, f2⟩ := DataW.trod_int Tryz.underlying28 t2
      simp only [List.cons.injEq, and_true] at e0 e1 e2
      subst e0 e1 e2
      have g0 := bounds_u8 f0
      refine ⟨⟨m0, m1, m2⟩, ⟨g0.1, Int.lt_of_le_of_lt g0.2 (by decide)⟩, ?_, ?_, ?_⟩
      · simpa using c0
      · simpa [Nat.add_assoc] using c1
      · simpa [Nat.add_assoc] using c2)
    exact ⟨xs, hl, hn, all_of_getD hl fun i hi => (hq i hi).1, fun _ => ⟨b, off, ha, hb, fun i hil => (hq i hil).2⟩⟩
  · obtain rfl : len = 0 := by omega
    exact ⟨[], rfl, by omega, by simp, fun h => absurd h (by omega)⟩

/-- What is known between the pieces of a round. -/
structure SpIn (w wr : World) (B g : Nat) (A : Option Addr) (c : Nat) (L : List Sv) (ad : Option Addr) (cd : Nat) : Prop where
  sk : Sk wr B g A c L
  rr : Rr wr B ad cd L
  gB : B ≤ g
  bl : RowKit.Below w.heap.size w wr
theorem SpIn.of_below {w wr w' : World} {B g : Nat} {A : Option Addr} {c : Nat} {L : List Sv} {ad : Option Addr} {cd : Nat} (h : SpIn w wr B g A c L ad cd) (hb : RowKit.Below wr.heap.size wr w') : SpIn w w' B g A c L ad cd :=
  ⟨h.sk.of_below hb, own_below h.rr hb, h.gB, below_step h.bl h.bl.size hb⟩
theorem own_lt {w : World} {base n : Nat} {e : TypeId} {size : Nat} {v : Value} {xs : List Value} (h : w.ownsRow base e size v n xs) {k : Nat} (hk : v.ownBlock = some k) : k < w.heap.size := by
  obtain ⟨cur, hc⟩ := own_blk_type h hk
  exact hc.lt
theorem Blk.keepSk {w w' : World} {B g : Nat} {A : Option Addr} {c : Nat} {L : List Sv} (h : Sk w B g A c L) {b : Nat} {t : TypeId} {cs : Array Value} (hb : Blk w b t cs) (h1 : 141 ≠ t) (h2 : 75 ≠ t) (hg : Grew w w' (fun k => k = g ∨ (Value.slice A L.length c).ownBlock = some k)) : Blk w' b t cs :=
  hb.grew hg (fun e => by
    rcases e with rfl | e
    · exact h.blk.ne_type hb h1 rfl
    · exact own_apart h.row hb (fun e => h2 e.symm) e)

set_option maxRecDepth 100000 in
set_option maxHeartbeats 16000000 in
theorem law_SlotsPlay (a : Option Addr) (len cap : Nat) (ls : List PAct) (w : World) (h1 : PActsIn w a len ls) :
    Calls Tryz.prog 7 #[.slice a len cap] w fun e w' => e = .returned (.bool true) ∧ RowKit.Below w.heap.size w w' := by
  obtain ⟨rfl, hn1, hwf1, hs1⟩ := h1
  by_cases hbig : 100 < ls.length
  · clear hs1 hwf1
    go_enter Tryz.func7, Tryz.ntmps7
    go_wp2_with (go_at_call 28; refine (law11_awake _).mono ?_; rintro e w' ⟨rfl, hb⟩)
    go_ret
    exact ⟨rfl, hb⟩
  have HWF := Lib.hid hwf1; clear hwf1
  have HS1 := Lib.hid hs1; clear hs1
  go_enter Tryz.func7, Tryz.ntmps7
  go_wp2_with fail
  refine (law11_awake _).mono ?_
  rintro e w1 ⟨rfl, hb1⟩
  have HB1 := Lib.hid hb1; clear hb1
  have hw1 := HB1.out.size
  go_wp2_with fail
  refine (slots_New _).mono ?_
  rintro e w2 ⟨rfl, rfl⟩
  have hs0 := Sk.new w1
  have hB2 := HB1.out.alloc hw1 (.cells #[.slice none 0 0] 141)
  generalize w1.alloc (.cells #[.slice none 0 0] 141) = w2 at *
  generalize hg : w1.heap.size = B at *
  have hBw : w.heap.size ≤ B := hw1
  have HR : Hid (SpIn w w2 B B none 0 [] none 0) := ⟨hs0, World.ownsRow_nil _ _ _ _, Nat.le_refl _, hB2⟩
  clear hs0 hB2 HB1 hg hw1
  go_wp2_with fail
  go_loopg [3, 4, 32] ls.length (fun gh v3 v4 iv wr => ∃ (k g : Nat) (A : Option Addr) (c : Nat) (L : List Sv) (ad : Option Addr) (cd : Nat), gh = ls.length - k ∧ k ≤ ls.length ∧ v3 = .pointer (some ⟨g, 0, none⟩) ∧ v4 = .slice ad L.length cd ∧ iv = .int .i64 k ∧ L.length ≤ k ∧ Hid (SpIn w wr B g A c L ad cd))
  case atStart => exact ⟨0, B, none, 0, [], none, 0, rfl, by omega, rfl, rfl, rfl, by simp, HR⟩
  case round =>
    clear HR
    obtain ⟨k, g, A, c, L, ad, cd, rfl, hk, rfl, rfl, rfl, hLk, HR⟩ := hrel
    by_cases hlt : k < ls.length
    · obtain ⟨b0, off, rfl, hbs, hc⟩ := HS1.out (by omega)
      have c0 := (HR.out.bl.cell (p := ⟨b0, off + k * 3, none⟩) hbs).trans (hc k hlt).1
      have c1 := (HR.out.bl.cell (p := ⟨b0, off + k * 3 + 1, none⟩) hbs).trans (hc k hlt).2.1
      have c2 := (HR.out.bl.cell (p := ⟨b0, off + k * 3 + 2, none⟩) hbs).trans (hc k hlt).2.2
      clear hc
      have hxr := HWF.out (ls.getD k default) (getD_mem hlt)
      generalize ls.getD k default = x at *
      obtain ⟨d, th, n⟩ := x
      dsimp only at *
      obtain ⟨hd0, hd1⟩ := hxr
      have hal := (RowKit.Below.refl wr.heap.size wr).alloc (Nat.le_refl _) (.cells #[.int .u8 d, .int .i64 th, .int .u64 n] 67)
      have HR1 := Lib.hid (HR.out.of_below hal)
      have HA := Lib.hid (Blk.new wr 67 #[.int .u8 d, .int .i64 th, .int .u64 n])
      clear hal
      have hBs : B ≤ (wr.alloc (.cells #[.int .u8 d, .int .i64 th, .int .u64 n] 67)).heap.size := by rw [size_alloc]; have := HR.out.sk.blk.lt; have := HR.out.gB; omega
      go_upto_if 38 with fail
      generalize wr.alloc (.cells #[.int .u8 d, .int .i64 th, .int .u64 n] 67) = W at *
      clear c0 c1 c2 HR hbs
      generalize wr.heap.size = av at *
      go_cut [3, 32] from 32 to 170 (fun v3 iv wc => iv = .int .i64 k ∧ ∃ (g : Nat) (A : Option Addr) (c : Nat), v3 = .pointer (some ⟨g, 0, none⟩) ∧ Hid (SpIn w wc B g A c L ad cd) ∧ Hid (Blk wc av 67 #[.int .u8 d, .int .i64 th, .int .u64 n]))
      case first =>
        by_cases hbit : 128 ≤ d
        · have hl1 : L.length < 999 := by omega
          go_wp2_with fail
          refine (slots_Clone B g A c L _ HR1.out.sk).mono ?_
          rintro e w2 ⟨g2, A2, c2, rfl, hs2, hg2, hb2⟩
          have h2 := HR1.out.of_below hb2
          have k2 := HA.out.of_below hb2
          have hsz2 := hb2.size
          have hf := slots_Fill_sum 3 h2.sk
          have HF := Lib.hid hf; clear hf
          have HS2 := Lib.hid hs2; clear hs2
          have H2 := Lib.hid h2; clear h2
          have HK2 := Lib.hid k2; clear k2
          go_wp2_with fail
          refine HF.out.mono ?_
          rintro e w3 ⟨rfl, A3, c3, hs3, hg3, ho3⟩
          have hfl : (fillL L 3).length = L.length := fillL_len L 3
          have hp := slots_Park_sum 77 7 hs3 (by have := hg3.size; omega) (by omega)
          have HP := Lib.hid hp; clear hp
          have HS3 := Lib.hid hs3; clear hs3
          have HFL := Lib.hid hfl; clear hfl
          go_wp2_with fail
          refine HP.out.mono ?_
          rintro e w4 ⟨rfl, A4, c4, hs4, hg4, -⟩
          have hgl := HR1.out.sk.blk.lt
          have n1 : ∀ z, z = g ∨ (Value.slice A L.length c).ownBlock = some z → z < W.heap.size := fun z hz => by
            rcases hz with rfl | hz
            · exact hgl
            · exact own_lt HR1.out.sk.row hz
          have hl2 := HS2.out.blk.lt
          have n2 : ∀ z, z = g ∨ (Value.slice A3 (fillL L 3).length c3).ownBlock = some z → z < W.heap.size ∨ w2.heap.size ≤ z := fun z hz => by
            rcases hz with rfl | hz
            · exact .inl hgl
            · rcases ho3 with ho | ⟨b', ho, hb'⟩
              · rw [ho] at hz; exact .inl (own_lt HR1.out.sk.row hz)
              · rw [ho] at hz; cases hz; exact .inr hb'
          have hkeep : ∀ z, W.heap.size ≤ z → z < w2.heap.size → ¬ (z = g ∨ (Value.slice A L.length c).ownBlock = some z) := fun z h1 _ h => by have := n1 z h; omega
          have hkeep2 : ∀ z, W.heap.size ≤ z → z < w2.heap.size → ¬ (z = g ∨ (Value.slice A3 (fillL L 3).length c3).ownBlock = some z) := fun z h1 h1' h => by have := n2 z h; omega
          have s4 : Sk w4 W.heap.size g2 A2 c2 L := ⟨(HS2.out.blk.grew hg3 (hkeep _ hg2 hl2)).grew hg4 (hkeep2 _ hg2 hl2), own_grew (own_grew HS2.out.row hg3 (fun z hz => hkeep z (own_base HS2.out.row z hz) (own_lt HS2.out.row hz))) hg4 (fun z hz => hkeep2 z (own_base HS2.out.row z hz) (own_lt HS2.out.row hz)), HS2.out.len⟩
          have r3 := own_keepSk H2.out.sk H2.out.rr (by decide) (by decide) hg3
          have r4 := own_keepSk HS3.out r3 (by decide) (by decide) hg4
          have a3 := Blk.keepSk H2.out.sk HK2.out (by decide) (by decide) hg3
          have a4 := Blk.keepSk HS3.out a3 (by decide) (by decide) hg4
          have b3 := hg3.below H2.out.bl (fun z _ hz => by
            rcases hz with rfl | hz
            · have := HR1.out.gB; omega
            · have := own_base HR1.out.sk.row z hz; omega) H2.out.bl.size
          have b4 := hg4.below b3 (fun z _ hz => by
            rcases hz with rfl | hz
            · have := HR1.out.gB; omega
            · have := own_base HS3.out.row z hz; omega) b3.size
          have S4 := Lib.hid (show SpIn w w4 B g2 A2 c2 L ad cd from ⟨⟨s4.blk, own_mono s4.row hBs, s4.len⟩, r4, by omega, b4⟩)
          have HA4 := Lib.hid a4; clear a4 a3 r3 r4 b3 b4 s4
          go_wp2_with fail
          go_meet
          exact ⟨rfl, g2, A2, c2, rfl, S4, HA4⟩
        · have hbit' : decide (128 ≤ d) = false := decide_eq_false hbit
          go_wp2
          go_meet
          exact ⟨rfl, g, A, c, rfl, HR1, HA⟩
      case rest =>
        clear HR1 HA hBs
        obtain ⟨rfl, g, A, c, rfl, HR, HA⟩ := hcut
        have hBs : B ≤ wc.heap.size := by have := HR.out.sk.blk.lt; have := HR.out.gB; omega
        have x0 := HA.out.cell 0
        have x1 := HA.out.cell 1
        have x2 := HA.out.cell 2
        have xl := HA.out.lt
        simp only [List.getElem?_toArray, List.getElem?_cons_zero, List.getElem?_cons_succ] at x0 x1 x2
        have hL1 : L.length < 1000 := by omega
        go_upto_block 2 with fail
        go_cut [4, 32] from 32 to 170 (fun v4 iv wx => iv = .int .i64 k ∧ ∃ (T : List Sv) (A1 : Option Addr) (c1 : Nat) (ad1 : Option Addr) (cd1 : Nat), v4 = .slice ad1 T.length cd1 ∧ T.length ≤ k + 1 ∧ Hid (SpIn w wx B g A1 c1 T ad1 cd1) ∧ Hid (Blk wx av 67 #[.int .u8 d, .int .i64 th, .int .u64 n]))
        case first =>
          by_cases hsw2 : d % 4 = 2
          · have hf := slots_Fill_sum n HR.out.sk
            generalize hL2 : fillL L n = L2 at hf
            generalize hv1 : fillT L n = v1 at hf
            generalize hv2 : fillB L n = v2 at hf
            have HF := Lib.hid hf; clear hf
            have hln := Nat.le_of_eq (fillL_len L n)
            rw [hL2] at hln
            have HL2 := Lib.hid hL2; clear hL2
            have HV1 := Lib.hid hv1; clear hv1
            have HV2 := Lib.hid hv2; clear hv2
            go_wp2_with fail
            refine HF.out.mono ?_
            rintro e w3 ⟨rfl, A3, c3, hs3, hg3, -⟩
            have hrr := own_keepSk HR.out.sk HR.out.rr (by decide) (by decide) hg3
            have hA3 := Blk.keepSk HR.out.sk HA.out (by decide) (by decide) hg3
            have hsz3 := hg3.size
            have p1 := hA3.cell 1
            have p2 := hA3.cell 2
            have pl := hA3.lt
            simp only [List.getElem?_toArray, List.getElem?_cons_zero, List.getElem?_cons_succ] at p1 p2
            have hb3 := hg3.below HR.out.bl (fun z _ hz => by
              rcases hz with rfl | hz
              · have := HR.out.gB; omega
              · have := own_base HR.out.sk.row z hz; omega) HR.out.bl.size
            have hr := ref11_Fill_sum n (show Rr w3 B ad cd L from hrr) (by omega) (by omega)
            rw [HL2.out, HV1.out, HV2.out] at hr
            have HRF := Lib.hid hr; clear hr hrr
            have HS3 := Lib.hid hs3; clear hs3
            have HA3 := Lib.hid hA3; clear hA3
            have HB3 := Lib.hid hb3; clear hb3 hg3
            go_wp2_with fail
            refine HRF.out.mono ?_
            rintro e w4 ⟨a4, c4, rfl, hr4, hb4⟩
            have HR4 := Lib.hid hr4; clear hr4
            have HB4 := Lib.hid hb4; clear hb4
            go_wp2_with fail
            go_meet
            exact ⟨rfl, L2, A3, c3, a4, c4, rfl, by omega, (show Hid _ from ⟨HS3.out.of_below HB4.out, HR4.out, HR.out.gB, below_step HB3.out HB3.out.size HB4.out⟩), (show Hid _ from HA3.out.of_below HB4.out)⟩
          · have h2 : (d % 4 == 2) = false := by simpa using hsw2
            have H2 := Lib.hid hsw2; clear hsw2
            by_cases hsw3 : d % 4 = 3
            · have hf := slots_Take_sum th HR.out.sk
              generalize hL2 : takeL L th = L2 at hf
              generalize hv1 : takeI L th = v1 at hf
              generalize hv2 : takeB L th = v2 at hf
              have HF := Lib.hid hf; clear hf
              have hln := takeL_len L th
              rw [hL2] at hln
              have HL2 := Lib.hid hL2; clear hL2
              have HV1 := Lib.hid hv1; clear hv1
              have HV2 := Lib.hid hv2; clear hv2
              go_wp2_with fail
              refine HF.out.mono ?_
              rintro e w3 ⟨rfl, A3, c3, hs3, hg3, -⟩
              have hrr := own_keepSk HR.out.sk HR.out.rr (by decide) (by decide) hg3
              have hA3 := Blk.keepSk HR.out.sk HA.out (by decide) (by decide) hg3
              have hsz3 := hg3.size
              have p1 := hA3.cell 1
              have p2 := hA3.cell 2
              have pl := hA3.lt
              simp only [List.getElem?_toArray, List.getElem?_cons_zero, List.getElem?_cons_succ] at p1 p2
              have hb3 := hg3.below HR.out.bl (fun z _ hz => by
                rcases hz with rfl | hz
                · have := HR.out.gB; omega
                · have := own_base HR.out.sk.row z hz; omega) HR.out.bl.size
              have hr := ref11_Take_sum th (show Rr w3 B ad cd L from hrr) (by omega) (by omega)
              rw [HL2.out, HV1.out, HV2.out] at hr
              have HRF := Lib.hid hr; clear hr hrr
              have HS3 := Lib.hid hs3; clear hs3
              have HA3 := Lib.hid hA3; clear hA3
              have HB3 := Lib.hid hb3; clear hb3 hg3
              go_wp2_with fail
              refine HRF.out.mono ?_
              rintro e w4 ⟨a4, c4, rfl, hr4, hb4⟩
              have HR4 := Lib.hid hr4; clear hr4
              have HB4 := Lib.hid hb4; clear hb4
              go_wp2_with fail
              go_meet
              exact ⟨rfl, L2, A3, c3, a4, c4, rfl, by omega, (show Hid _ from ⟨HS3.out.of_below HB4.out, HR4.out, HR.out.gB, below_step HB3.out HB3.out.size HB4.out⟩), (show Hid _ from HA3.out.of_below HB4.out)⟩
            · have h3 : (d % 4 == 3) = false := by simpa using hsw3
              have H3 := Lib.hid hsw3; clear hsw3
              have hf := slots_Park_sum th n HR.out.sk hBs hL1
              generalize hL2 : parkL L th n = L2 at hf
              generalize hv1 : parkE L th = v1 at hf
              have HF := Lib.hid hf; clear hf
              have hln := parkL_len L th n
              rw [hL2] at hln
              have HL2 := Lib.hid hL2; clear hL2
              have HV1 := Lib.hid hv1; clear hv1
              go_wp2_with fail
              refine HF.out.mono ?_
              rintro e w3 ⟨rfl, A3, c3, hs3, hg3, -⟩
              have hrr := own_keepSk HR.out.sk HR.out.rr (by decide) (by decide) hg3
              have hA3 := Blk.keepSk HR.out.sk HA.out (by decide) (by decide) hg3
              have hsz3 := hg3.size
              have p1 := hA3.cell 1
              have p2 := hA3.cell 2
              have pl := hA3.lt
              simp only [List.getElem?_toArray, List.getElem?_cons_zero, List.getElem?_cons_succ] at p1 p2
              have hb3 := hg3.below HR.out.bl (fun z _ hz => by
                rcases hz with rfl | hz
                · have := HR.out.gB; omega
                · have := own_base HR.out.sk.row z hz; omega) HR.out.bl.size
              have hr := ref11_Park_sum th n (show Rr w3 B ad cd L from hrr) (by omega) (by omega)
              rw [HL2.out, HV1.out] at hr
              have HRF := Lib.hid hr; clear hr hrr
              have HS3 := Lib.hid hs3; clear hs3
              have HA3 := Lib.hid hA3; clear hA3
              have HB3 := Lib.hid hb3; clear hb3 hg3
              go_wp2_with fail
              refine HRF.out.mono ?_
              rintro e w4 ⟨a4, c4, rfl, hr4, hb4⟩
              have HR4 := Lib.hid hr4; clear hr4
              have HB4 := Lib.hid hb4; clear hb4
              go_wp2_with fail
              go_meet
              exact ⟨rfl, L2, A3, c3, a4, c4, rfl, by omega, (show Hid _ from ⟨HS3.out.of_below HB4.out, HR4.out, HR.out.gB, below_step HB3.out HB3.out.size HB4.out⟩), (show Hid _ from HA3.out.of_below HB4.out)⟩
        case rest =>
          clear HR HA x0 x1 x2 xl hL1 hBs hLk
          obtain ⟨rfl, T, A1, c1, ad1, cd1, rfl, hTk, HR, HA⟩ := hcut
          have x1 := HA.out.cell 1
          have xl := HA.out.lt
          simp only [List.getElem?_toArray, List.getElem?_cons_zero, List.getElem?_cons_succ] at x1
          have hT1 : T.length ≤ 1000 := by omega
          by_cases hx : ixT T th < 0
          · have hof := slots_Of_no B g A1 c1 T th _ HR.out.sk hx
            have HOF := Lib.hid hof; clear hof
            go_wp2_with fail
            refine HOF.out.mono ?_
            rintro e w3 ⟨rfl, hb3⟩
            have hr3 := HR.out.of_below hb3
            have ha3 := HA.out.of_below hb3
            have hal3 := (RowKit.Below.refl w3.heap.size w3).alloc (Nat.le_refl _) (.cells #[.int .i64 0, .int .u64 0, .int .u64 0] 75)
            have hk3 := Blk.new w3 75 #[.int .i64 0, .int .u64 0, .int .u64 0]
            have hr3a := hr3.of_below hal3
            have p1 := (ha3.of_below hal3).cell 1
            have pl := (ha3.of_below hal3).lt
            simp only [List.getElem?_toArray, List.getElem?_cons_zero, List.getElem?_cons_succ] at p1
            obtain ⟨W3, hW3⟩ : ∃ W3, W3 = w3.alloc (.cells #[.int .i64 0, .int .u64 0, .int .u64 0] 75) := ⟨_, rfl⟩
            rw [← hW3] at hk3 hr3a p1 pl
            have HW3 := Lib.hid hW3; clear hW3
            have HR3 := Lib.hid hr3a; clear hr3a hr3 ha3 hal3 hb3
            have HK3 := Lib.hid hk3; clear hk3
            have q1 : (w3.alloc (.cells #[.int .i64 0, .int .u64 0, .int .u64 0] 75)).cell? ⟨av, 1, none⟩ = some (.int .i64 th) := by rw [← HW3.out]; exact p1
            have hir : ixT T th < 0 := hx
            have HROF := Lib.hid (ref11_Of ad1 cd1 T th W3 (own_rw HR3.out.rr) (by omega))
            go_wp2_with fail
            rw [← HW3.out]
            refine HROF.out.mono ?_
            rintro e w5 ⟨rfl, hb5⟩
            have hd1 : decide (0 ≤ fidx (fun x : Sv => x.th == th) T) = false := decide_eq_false (by unfold ixT at hx; omega)
            generalize fidx (fun x : Sv => x.th == th) T = r at *
            have HK5 := Lib.hid (HK3.out.of_below hb5)
            have hr5 := HR3.out.of_below hb5
            obtain ⟨W5, hW5⟩ : ∃ W, W = w5 := ⟨_, rfl⟩
            subst hW5
            have HSK5 := Lib.hid hr5.sk
            have HRR5 := Lib.hid hr5.rr
            have HBL5 := Lib.hid hr5.bl
            have hgB := hr5.gB
            clear hr5 hb5 HR3 HK3 HROF HOF
            have hxc : ∀ w', RowKit.Below W5.heap.size W5 w' → w'.cell? ⟨w3.heap.size, 0, none⟩ = some (.int .i64 0) ∧ w'.cell? ⟨w3.heap.size, 1, none⟩ = some (.int .u64 0) ∧ w'.cell? ⟨w3.heap.size, 2, none⟩ = some (.int .u64 0) ∧ True ∧ True ∧ True := fun w' hw' => by
              have := HK5.out.of_below hw'
              exact ⟨by rw [this.cell]; rfl, by rw [this.cell]; rfl, by rw [this.cell]; rfl, trivial, trivial, trivial⟩
            have HX := Lib.hid hxc; clear hxc
            have hnq := fun W => neq_slot 0 0 0 0 0 0 W
            simp only [decide_true, Bool.not_true] at hnq
            have hgd := guard_slot
            go_wp2_with fail
            refine wp_region_mix (fun w' => RowKit.Below W5.heap.size W5 w') [(0, true), (1, true), (2, true), (3, true), (4, true), (5, true), (6, true), (7, true), (8, true), (9, true), (10, true), (11, true), (12, true), (13, true), (14, true), (15, true), (16, true), (17, true), (18, true), (19, true), (20, true), (21, true), (22, true), (23, true), (24, true), (25, true), (28, true), (26, false), (27, false), (29, false), (30, true), (31, true), (32, true), (33, true), (35, true), (34, false), (36, false), (37, true), (38, true)] (by kernel_rfl) (by kernel_rfl) ((Below.refl _ _).drew) ?_
            refine ord_still rfl rfl (fun K hK => ?_); apply Exists.intro; refine ⟨fun w' hw' => ?_, ?_⟩; (obtain ⟨z0, z1, z2, y0, y1, y2⟩ := HX.out w' hw'; go_simp; first | done | exact ⟨rfl, rfl⟩ | exact rfl); (go_simp; refine hK _ ?_; clear hK K)
            refine ord_still rfl rfl (fun K hK => ?_); apply Exists.intro; refine ⟨fun w' hw' => ?_, ?_⟩; (obtain ⟨z0, z1, z2, y0, y1, y2⟩ := HX.out w' hw'; go_simp; first | done | exact ⟨rfl, rfl⟩ | exact rfl); (go_simp; refine hK _ ?_; clear hK K)
            refine ord_still rfl rfl (fun K hK => ?_); apply Exists.intro; refine ⟨fun w' hw' => ?_, ?_⟩; (obtain ⟨z0, z1, z2, y0, y1, y2⟩ := HX.out w' hw'; go_simp; first | done | exact ⟨rfl, rfl⟩ | exact rfl); (go_simp; refine hK _ ?_; clear hK K)
            refine ord_still rfl rfl (fun K hK => ?_); apply Exists.intro; refine ⟨fun w' hw' => ?_, ?_⟩; (obtain ⟨z0, z1, z2, y0, y1, y2⟩ := HX.out w' hw'; go_simp; first | done | exact ⟨rfl, rfl⟩ | exact rfl); (go_simp; refine hK _ ?_; clear hK K)
            refine ord_still rfl rfl (fun K hK => ?_); apply Exists.intro; refine ⟨fun w' hw' => ?_, ?_⟩; (obtain ⟨z0, z1, z2, y0, y1, y2⟩ := HX.out w' hw'; go_simp; first | done | exact ⟨rfl, rfl⟩ | exact rfl); (go_simp; refine hK _ ?_; clear hK K)
            refine ord_still rfl rfl (fun K hK => ?_); apply Exists.intro; refine ⟨fun w' hw' => ?_, ?_⟩; (obtain ⟨z0, z1, z2, y0, y1, y2⟩ := HX.out w' hw'; go_simp; first | done | exact ⟨rfl, rfl⟩ | exact rfl); (go_simp; refine hK _ ?_; clear hK K)
            refine ord_still rfl rfl (fun K hK => ?_); apply Exists.intro; refine ⟨fun w' hw' => ?_, ?_⟩; (obtain ⟨z0, z1, z2, y0, y1, y2⟩ := HX.out w' hw'; go_simp; first | done | exact ⟨rfl, rfl⟩ | exact rfl); (go_simp; refine hK _ ?_; clear hK K)
            refine ord_skip rfl rfl (fun K hK => ?_); (go_simp; refine hK _ ?_; clear hK K)
            refine ord_skip rfl rfl (fun K hK => ?_); (go_simp; refine hK _ ?_; clear hK K)
            refine ord_skip rfl rfl (fun K hK => ?_); (go_simp; refine hK _ ?_; clear hK K)
            refine ord_skip rfl rfl (fun K hK => ?_); (go_simp; refine hK _ ?_; clear hK K)
            refine ord_skip rfl rfl (fun K hK => ?_); (go_simp; refine hK _ ?_; clear hK K)
            refine ord_skip rfl rfl (fun K hK => ?_); (go_simp; refine hK _ ?_; clear hK K)
            refine ord_still rfl rfl (fun K hK => ?_); apply Exists.intro; refine ⟨fun w' hw' => ?_, ?_⟩; (obtain ⟨z0, z1, z2, y0, y1, y2⟩ := HX.out w' hw'; go_simp; first | done | exact ⟨rfl, rfl⟩ | exact rfl); (go_simp; refine hK _ ?_; clear hK K)
            refine ord_still rfl rfl (fun K hK => ?_); apply Exists.intro; refine ⟨fun w' hw' => ?_, ?_⟩; (obtain ⟨z0, z1, z2, y0, y1, y2⟩ := HX.out w' hw'; go_simp; first | done | exact ⟨rfl, rfl⟩ | exact rfl); (go_simp; refine hK _ ?_; clear hK K)
            refine ord_still rfl rfl (fun K hK => ?_); apply Exists.intro; refine ⟨fun w' hw' => ?_, ?_⟩; (obtain ⟨z0, z1, z2, y0, y1, y2⟩ := HX.out w' hw'; go_simp; first | done | exact ⟨rfl, rfl⟩ | exact rfl); (go_simp; refine hK _ ?_; clear hK K)
            refine ord_still rfl rfl (fun K hK => ?_); apply Exists.intro; refine ⟨fun w' hw' => ?_, ?_⟩; (obtain ⟨z0, z1, z2, y0, y1, y2⟩ := HX.out w' hw'; go_simp; first | done | exact ⟨rfl, rfl⟩ | exact rfl); (go_simp; refine hK _ ?_; clear hK K)
            refine ord_still rfl rfl (fun K hK => ?_); apply Exists.intro; refine ⟨fun w' hw' => ?_, ?_⟩; (obtain ⟨z0, z1, z2, y0, y1, y2⟩ := HX.out w' hw'; go_simp; first | done | exact ⟨rfl, rfl⟩ | exact rfl); (go_simp; refine hK _ ?_; clear hK K)
            refine ord_still rfl rfl (fun K hK => ?_); apply Exists.intro; refine ⟨fun w' hw' => ?_, ?_⟩; (obtain ⟨z0, z1, z2, y0, y1, y2⟩ := HX.out w' hw'; go_simp; first | done | exact ⟨rfl, rfl⟩ | exact rfl); (go_simp; refine hK _ ?_; clear hK K)
            refine ord_still rfl rfl (fun K hK => ?_); apply Exists.intro; refine ⟨fun w' hw' => ?_, ?_⟩; (obtain ⟨z0, z1, z2, y0, y1, y2⟩ := HX.out w' hw'; go_simp; first | done | exact ⟨rfl, rfl⟩ | exact rfl); (go_simp; refine hK _ ?_; clear hK K)
            refine ord_still rfl rfl (fun K hK => ?_); apply Exists.intro; refine ⟨fun w' hw' => ?_, ?_⟩; (obtain ⟨z0, z1, z2, y0, y1, y2⟩ := HX.out w' hw'; go_simp; first | done | exact ⟨rfl, rfl⟩ | exact rfl); (go_simp; refine hK _ ?_; clear hK K)
            refine ord_still rfl rfl (fun K hK => ?_); apply Exists.intro; refine ⟨fun w' hw' => ?_, ?_⟩; (obtain ⟨z0, z1, z2, y0, y1, y2⟩ := HX.out w' hw'; go_simp; first | done | exact ⟨rfl, rfl⟩ | exact rfl); (go_simp; refine hK _ ?_; clear hK K)
            refine ord_still rfl rfl (fun K hK => ?_); apply Exists.intro; refine ⟨fun w' hw' => ?_, ?_⟩; (obtain ⟨z0, z1, z2, y0, y1, y2⟩ := HX.out w' hw'; go_simp; first | done | exact ⟨rfl, rfl⟩ | exact rfl); (go_simp; refine hK _ ?_; clear hK K)
            refine ord_still rfl rfl (fun K hK => ?_); apply Exists.intro; refine ⟨fun w' hw' => ?_, ?_⟩; (obtain ⟨z0, z1, z2, y0, y1, y2⟩ := HX.out w' hw'; go_simp; first | done | exact ⟨rfl, rfl⟩ | exact rfl); (go_simp; refine hK _ ?_; clear hK K)
            refine ord_still rfl rfl (fun K hK => ?_); apply Exists.intro; refine ⟨fun w' hw' => ?_, ?_⟩; (obtain ⟨z0, z1, z2, y0, y1, y2⟩ := HX.out w' hw'; go_simp; first | done | exact ⟨rfl, rfl⟩ | exact rfl); (go_simp; refine hK _ ?_; clear hK K)
            refine ord_still rfl rfl (fun K hK => ?_); apply Exists.intro; refine ⟨fun w' hw' => ?_, ?_⟩; (obtain ⟨z0, z1, z2, y0, y1, y2⟩ := HX.out w' hw'; go_simp; first | done | exact ⟨rfl, rfl⟩ | exact rfl); (go_simp; refine hK _ ?_; clear hK K)
            refine ord_still rfl rfl (fun K hK => ?_); apply Exists.intro; refine ⟨fun w' hw' => ?_, ?_⟩; (obtain ⟨z0, z1, z2, y0, y1, y2⟩ := HX.out w' hw'; go_simp; first | done | exact ⟨rfl, rfl⟩ | exact rfl); (go_simp; refine hK _ ?_; clear hK K)
            refine ord_sole rfl rfl (fun K hK => ?_); go_simp
            refine (slots_All B g A1 c1 T _ (HSK5.out.of_below (Below.refl _ _).drew)).mono ?_
            rintro e u1 ⟨a6, c6, rfl, ho6, hb6⟩
            have hc' := below_step (Below.refl W5.heap.size W5).drew (Nat.le_refl _) hb6
            refine ⟨_, rfl, hc', ?_⟩
            go_simp
            refine hK _ _ ?_; clear hK K
            have HC1 := Lib.hid hc'; clear hc' hb6
            refine ord_sole rfl rfl (fun K hK => ?_); go_simp
            refine (law11_To a6 c6 T u1 (own_rw ho6) hT1).mono ?_
            rintro e u2 ⟨a7, c7, rfl, ho7, hb7⟩
            have hc' := below_step HC1.out HC1.out.size hb7
            refine ⟨_, rfl, hc', ?_⟩
            go_simp
            refine hK _ _ ?_; clear hK K
            have HC2 := Lib.hid hc'; clear hc' hb7 ho6
            have heq := slices_Equal_rslot a7 ad1 c7 cd1 T T u2 (own_rw ho7) ((own_rw HRR5.out).below HC2.out) (by omega) (by omega)
            rw [decide_eq_true rfl] at heq
            have HEQ := Lib.hid heq; clear heq
            refine ord_sole rfl rfl (fun K hK => ?_); go_simp
            refine (HEQ.out).mono ?_
            rintro e u3 ⟨rfl, q3, rfl⟩
            have hc' := below_drewN HC2.out q3
            refine ⟨_, rfl, hc', ?_⟩
            go_simp
            refine hK _ _ ?_; clear hK K
            have HC3 := Lib.hid hc'; clear hc' ho7 HEQ
            refine ord_still rfl rfl (fun K hK => ?_); apply Exists.intro; refine ⟨fun w' hw' => ?_, ?_⟩; (obtain ⟨z0, z1, z2, y0, y1, y2⟩ := HX.out w' hw'; go_simp; first | done | exact ⟨rfl, rfl⟩ | exact rfl); (go_simp; refine hK _ ?_; clear hK K)
            refine ord_still rfl rfl (fun K hK => ?_); apply Exists.intro; refine ⟨fun w' hw' => ?_, ?_⟩; (obtain ⟨z0, z1, z2, y0, y1, y2⟩ := HX.out w' hw'; go_simp; first | done | exact ⟨rfl, rfl⟩ | exact rfl); (go_simp; refine hK _ ?_; clear hK K)
            refine ord_still rfl rfl (fun K hK => ?_); apply Exists.intro; refine ⟨fun w' hw' => ?_, ?_⟩; (obtain ⟨z0, z1, z2, y0, y1, y2⟩ := HX.out w' hw'; go_simp; first | done | exact ⟨rfl, rfl⟩ | exact rfl); (go_simp; refine hK _ ?_; clear hK K)
            refine ord_still rfl rfl (fun K hK => ?_); apply Exists.intro; refine ⟨fun w' hw' => ?_, ?_⟩; (obtain ⟨z0, z1, z2, y0, y1, y2⟩ := HX.out w' hw'; go_simp; first | done | exact ⟨rfl, rfl⟩ | exact rfl); (go_simp; refine hK _ ?_; clear hK K)
            refine ord_still rfl rfl (fun K hK => ?_); apply Exists.intro; refine ⟨fun w' hw' => ?_, ?_⟩; (obtain ⟨z0, z1, z2, y0, y1, y2⟩ := HX.out w' hw'; go_simp; first | done | exact ⟨rfl, rfl⟩ | exact rfl); (go_simp; refine hK _ ?_; clear hK K)
            refine ord_sole rfl rfl (fun K hK => ?_); go_simp
            refine (slots_Waiting B g A1 c1 T _ (HSK5.out.of_below HC3.out)).mono ?_
            rintro e u4 ⟨rfl, hb8⟩
            have hc' := below_step HC3.out HC3.out.size hb8
            refine ⟨_, rfl, hc', ?_⟩
            go_simp
            refine hK _ _ ?_; clear hK K
            have HC4 := Lib.hid hc'; clear hc' hb8
            refine ord_sole rfl rfl (fun K hK => ?_); go_simp
            refine (ref11_Waiting ad1 cd1 T u4 ((own_rw HRR5.out).below HC4.out) hT1).mono ?_
            rintro e u5 ⟨rfl, hb9⟩
            have hc' := below_step HC4.out HC4.out.size hb9
            refine ⟨_, rfl, hc', ?_⟩
            go_simp
            refine hK _ _ ?_; clear hK K
            have HC5 := Lib.hid hc'; clear hc' hb9
            refine ord_still rfl rfl (fun K hK => ?_); apply Exists.intro; refine ⟨fun w' hw' => ?_, ?_⟩; (obtain ⟨z0, z1, z2, y0, y1, y2⟩ := HX.out w' hw'; go_simp; first | done | exact ⟨rfl, rfl⟩ | exact rfl); (go_simp; refine hK _ ?_; clear hK K)
            refine ord_still rfl rfl (fun K hK => ?_); apply Exists.intro; refine ⟨fun w' hw' => ?_, ?_⟩; (obtain ⟨z0, z1, z2, y0, y1, y2⟩ := HX.out w' hw'; go_simp; first | done | exact ⟨rfl, rfl⟩ | exact rfl); (go_simp; refine hK _ ?_; clear hK K)
            refine ord_nil ?_
            intro hCx
            go_wp2
            go_roundg (ls.length - (k + 1))
            case measure => omega
            case rel => exact ⟨k + 1, g, A1, c1, T, ad1, cd1, rfl, by omega, rfl, rfl, by go_num, hTk, (show Hid _ from ⟨HSK5.out.of_below HC5.out, own_below HRR5.out HC5.out, hgB, below_step HBL5.out HBL5.out.size HC5.out⟩)⟩
          · obtain ⟨j, x, h1, h2, h3, h4⟩ := fidx_get (p := fun x : Sv => x.th == th) (L := T) hx
            have hof := slots_Of_yes B g A1 c1 T th j x _ HR.out.sk h1 h2
            obtain ⟨xa, xb, xc⟩ := x
            have hjl := (List.getElem?_eq_some_iff.1 h2).1
            have HOF := Lib.hid hof; clear hof h3 h4
            have H1 := Lib.hid h1; clear h1
            have H2 := Lib.hid h2; clear h2
            go_wp2_with fail
            refine HOF.out.mono ?_
            rintro e w3 ⟨rfl, hb3⟩
            have hr3 := HR.out.of_below hb3
            have ha3 := HA.out.of_below hb3
            have hal3 := (RowKit.Below.refl w3.heap.size w3).alloc (Nat.le_refl _) (.cells #[.int .i64 xa, .int .u64 xb, .int .u64 xc] 75)
            have hk3 := Blk.new w3 75 #[.int .i64 xa, .int .u64 xb, .int .u64 xc]
            have hr3a := hr3.of_below hal3
            have p1 := (ha3.of_below hal3).cell 1
            have pl := (ha3.of_below hal3).lt
            simp only [List.getElem?_toArray, List.getElem?_cons_zero, List.getElem?_cons_succ] at p1
            obtain ⟨W3, hW3⟩ : ∃ W3, W3 = w3.alloc (.cells #[.int .i64 xa, .int .u64 xb, .int .u64 xc] 75) := ⟨_, rfl⟩
            rw [← hW3] at hk3 hr3a p1 pl
            have HW3 := Lib.hid hW3; clear hW3
            have HR3 := Lib.hid hr3a; clear hr3a hr3 ha3 hal3 hb3
            have HK3 := Lib.hid hk3; clear hk3
            have q1 : (w3.alloc (.cells #[.int .i64 xa, .int .u64 xb, .int .u64 xc] 75)).cell? ⟨av, 1, none⟩ = some (.int .i64 th) := by rw [← HW3.out]; exact p1
            have hrof := ref11_Of ad1 cd1 T th W3 (own_rw HR3.out.rr) (by omega)
            rw [H1.out] at hrof
            have HROF := Lib.hid hrof; clear hrof
            go_wp2_with fail
            rw [← HW3.out]
            refine HROF.out.mono ?_
            rintro e w5 ⟨rfl, hb5⟩
            have HK5 := Lib.hid (HK3.out.of_below hb5)
            have hr5 := HR3.out.of_below hb5
            obtain ⟨W5, hW5⟩ : ∃ W, W = w5 := ⟨_, rfl⟩
            subst hW5
            have HSK5 := Lib.hid hr5.sk
            have HRR5 := Lib.hid hr5.rr
            have HBL5 := Lib.hid hr5.bl
            have hgB := hr5.gB
            clear hr5 hb5 HR3 HK3 HROF HOF
            obtain ⟨bd, offd, rfl, hbd, hcd⟩ := (own_rw HRR5.out).at_ Sv.cells_length (by omega)
            have y0 : W5.cell? ⟨bd, offd + j * 3, none⟩ = some (.int .i64 xa) := hcd j _ H2.out 0 _ rfl
            have y1 : W5.cell? ⟨bd, offd + j * 3 + 1, none⟩ = some (.int .u64 xb) := hcd j _ H2.out 1 _ rfl
            have y2 : W5.cell? ⟨bd, offd + j * 3 + 2, none⟩ = some (.int .u64 xc) := hcd j _ H2.out 2 _ rfl
            have hxc : ∀ w', RowKit.Below W5.heap.size W5 w' → w'.cell? ⟨w3.heap.size, 0, none⟩ = some (.int .i64 xa) ∧ w'.cell? ⟨w3.heap.size, 1, none⟩ = some (.int .u64 xb) ∧ w'.cell? ⟨w3.heap.size, 2, none⟩ = some (.int .u64 xc) ∧ w'.cell? ⟨bd, offd + j * 3, none⟩ = some (.int .i64 xa) ∧ w'.cell? ⟨bd, offd + j * 3 + 1, none⟩ = some (.int .u64 xb) ∧ w'.cell? ⟨bd, offd + j * 3 + 2, none⟩ = some (.int .u64 xc) := fun w' hw' => by
              have := HK5.out.of_below hw'
              exact ⟨by rw [this.cell]; rfl, by rw [this.cell]; rfl, by rw [this.cell]; rfl, (hw'.cell (p := ⟨bd, offd + j * 3, none⟩) hbd).trans y0, (hw'.cell (p := ⟨bd, offd + j * 3 + 1, none⟩) hbd).trans y1, (hw'.cell (p := ⟨bd, offd + j * 3 + 2, none⟩) hbd).trans y2⟩
            have HX := Lib.hid hxc; clear hxc y0 y1 y2 hcd
            have hnq := fun W => neq_rslot xa xb xc xa xb xc W
            simp only [decide_true, Bool.not_true] at hnq
            have hgd := guard_rslot
            have hd1 : decide ((0 : Int) ≤ (j : Int)) = true := decide_eq_true (by omega)
            have hj0 : (0 : Int) ≤ (j : Int) := by omega
            go_wp2_with fail
            refine wp_region_mix (fun w' => RowKit.Below W5.heap.size W5 w') [(0, true), (1, true), (2, true), (3, true), (4, true), (5, true), (6, true), (7, true), (8, true), (9, true), (10, true), (11, true), (12, true), (13, true), (14, true), (15, true), (16, true), (17, true), (18, true), (19, true), (20, true), (21, true), (22, true), (23, true), (24, true), (25, true), (28, true), (26, false), (27, false), (29, false), (30, true), (31, true), (32, true), (33, true), (35, true), (34, false), (36, false), (37, true), (38, true)] (by kernel_rfl) (by kernel_rfl) ((Below.refl _ _).drew) ?_
            refine ord_still rfl rfl (fun K hK => ?_); apply Exists.intro; refine ⟨fun w' hw' => ?_, ?_⟩; (obtain ⟨z0, z1, z2, y0, y1, y2⟩ := HX.out w' hw'; go_simp; first | done | exact ⟨rfl, rfl⟩ | exact rfl); (go_simp; refine hK _ ?_; clear hK K)
            refine ord_still rfl rfl (fun K hK => ?_); apply Exists.intro; refine ⟨fun w' hw' => ?_, ?_⟩; (obtain ⟨z0, z1, z2, y0, y1, y2⟩ := HX.out w' hw'; go_simp; first | done | exact ⟨rfl, rfl⟩ | exact rfl); (go_simp; refine hK _ ?_; clear hK K)
            refine ord_still rfl rfl (fun K hK => ?_); apply Exists.intro; refine ⟨fun w' hw' => ?_, ?_⟩; (obtain ⟨z0, z1, z2, y0, y1, y2⟩ := HX.out w' hw'; go_simp; first | done | exact ⟨rfl, rfl⟩ | exact rfl); (go_simp; refine hK _ ?_; clear hK K)
            refine ord_still rfl rfl (fun K hK => ?_); apply Exists.intro; refine ⟨fun w' hw' => ?_, ?_⟩; (obtain ⟨z0, z1, z2, y0, y1, y2⟩ := HX.out w' hw'; go_simp; first | done | exact ⟨rfl, rfl⟩ | exact rfl); (go_simp; refine hK _ ?_; clear hK K)
            refine ord_still rfl rfl (fun K hK => ?_); apply Exists.intro; refine ⟨fun w' hw' => ?_, ?_⟩; (obtain ⟨z0, z1, z2, y0, y1, y2⟩ := HX.out w' hw'; go_simp; first | done | exact ⟨rfl, rfl⟩ | exact rfl); (go_simp; refine hK _ ?_; clear hK K)
            refine ord_still rfl rfl (fun K hK => ?_); apply Exists.intro; refine ⟨fun w' hw' => ?_, ?_⟩; (obtain ⟨z0, z1, z2, y0, y1, y2⟩ := HX.out w' hw'; go_simp; first | done | exact ⟨rfl, rfl⟩ | exact rfl); (go_simp; refine hK _ ?_; clear hK K)
            refine ord_still rfl rfl (fun K hK => ?_); apply Exists.intro; refine ⟨fun w' hw' => ?_, ?_⟩; (obtain ⟨z0, z1, z2, y0, y1, y2⟩ := HX.out w' hw'; go_simp; first | done | exact ⟨rfl, rfl⟩ | exact rfl); (go_simp; refine hK _ ?_; clear hK K)
            refine ord_still rfl rfl (fun K hK => ?_); apply Exists.intro; refine ⟨fun w' hw' => ?_, ?_⟩; (obtain ⟨z0, z1, z2, y0, y1, y2⟩ := HX.out w' hw'; go_simp; first | done | exact ⟨rfl, rfl⟩ | exact rfl); (go_simp; refine hK _ ?_; clear hK K)
            refine ord_still rfl rfl (fun K hK => ?_); apply Exists.intro; refine ⟨fun w' hw' => ?_, ?_⟩; (obtain ⟨z0, z1, z2, y0, y1, y2⟩ := HX.out w' hw'; go_simp; first | done | exact ⟨rfl, rfl⟩ | exact rfl); (go_simp; refine hK _ ?_; clear hK K)
            refine ord_still rfl rfl (fun K hK => ?_); apply Exists.intro; refine ⟨fun w' hw' => ?_, ?_⟩; (obtain ⟨z0, z1, z2, y0, y1, y2⟩ := HX.out w' hw'; go_simp; first | done | exact ⟨rfl, rfl⟩ | exact rfl); (go_simp; refine hK _ ?_; clear hK K)
            refine ord_still rfl rfl (fun K hK => ?_); apply Exists.intro; refine ⟨fun w' hw' => ?_, ?_⟩; (obtain ⟨z0, z1, z2, y0, y1, y2⟩ := HX.out w' hw'; go_simp; first | done | exact ⟨rfl, rfl⟩ | exact rfl); (go_simp; refine hK _ ?_; clear hK K)
            refine ord_still rfl rfl (fun K hK => ?_); apply Exists.intro; refine ⟨fun w' hw' => ?_, ?_⟩; (obtain ⟨z0, z1, z2, y0, y1, y2⟩ := HX.out w' hw'; go_simp; first | done | exact ⟨rfl, rfl⟩ | exact rfl); (go_simp; refine hK _ ?_; clear hK K)
            refine ord_still rfl rfl (fun K hK => ?_); apply Exists.intro; refine ⟨fun w' hw' => ?_, ?_⟩; (obtain ⟨z0, z1, z2, y0, y1, y2⟩ := HX.out w' hw'; go_simp; first | done | exact ⟨rfl, rfl⟩ | exact rfl); (go_simp; refine hK _ ?_; clear hK K)
            refine ord_still rfl rfl (fun K hK => ?_); apply Exists.intro; refine ⟨fun w' hw' => ?_, ?_⟩; (obtain ⟨z0, z1, z2, y0, y1, y2⟩ := HX.out w' hw'; go_simp; first | done | exact ⟨rfl, rfl⟩ | exact rfl); (go_simp; refine hK _ ?_; clear hK K)
            refine ord_still rfl rfl (fun K hK => ?_); apply Exists.intro; refine ⟨fun w' hw' => ?_, ?_⟩; (obtain ⟨z0, z1, z2, y0, y1, y2⟩ := HX.out w' hw'; go_simp; first | done | exact ⟨rfl, rfl⟩ | exact rfl); (go_simp; refine hK _ ?_; clear hK K)
            refine ord_still rfl rfl (fun K hK => ?_); apply Exists.intro; refine ⟨fun w' hw' => ?_, ?_⟩; (obtain ⟨z0, z1, z2, y0, y1, y2⟩ := HX.out w' hw'; go_simp; first | done | exact ⟨rfl, rfl⟩ | exact rfl); (go_simp; refine hK _ ?_; clear hK K)
            refine ord_still rfl rfl (fun K hK => ?_); apply Exists.intro; refine ⟨fun w' hw' => ?_, ?_⟩; (obtain ⟨z0, z1, z2, y0, y1, y2⟩ := HX.out w' hw'; go_simp; first | done | exact ⟨rfl, rfl⟩ | exact rfl); (go_simp; refine hK _ ?_; clear hK K)
            refine ord_still rfl rfl (fun K hK => ?_); apply Exists.intro; refine ⟨fun w' hw' => ?_, ?_⟩; (obtain ⟨z0, z1, z2, y0, y1, y2⟩ := HX.out w' hw'; go_simp; first | done | exact ⟨rfl, rfl⟩ | exact rfl); (go_simp; refine hK _ ?_; clear hK K)
            refine ord_still rfl rfl (fun K hK => ?_); apply Exists.intro; refine ⟨fun w' hw' => ?_, ?_⟩; (obtain ⟨z0, z1, z2, y0, y1, y2⟩ := HX.out w' hw'; go_simp; first | done | exact ⟨rfl, rfl⟩ | exact rfl); (go_simp; refine hK _ ?_; clear hK K)
            refine ord_skip rfl rfl (fun K hK => ?_); (go_simp; refine hK _ ?_; clear hK K)
            refine ord_skip rfl rfl (fun K hK => ?_); (go_simp; refine hK _ ?_; clear hK K)
            refine ord_skip rfl rfl (fun K hK => ?_); (go_simp; refine hK _ ?_; clear hK K)
            refine ord_still rfl rfl (fun K hK => ?_); apply Exists.intro; refine ⟨fun w' hw' => ?_, ?_⟩; (obtain ⟨z0, z1, z2, y0, y1, y2⟩ := HX.out w' hw'; go_simp; first | done | exact ⟨rfl, rfl⟩ | exact rfl); (go_simp; refine hK _ ?_; clear hK K)
            refine ord_still rfl rfl (fun K hK => ?_); apply Exists.intro; refine ⟨fun w' hw' => ?_, ?_⟩; (obtain ⟨z0, z1, z2, y0, y1, y2⟩ := HX.out w' hw'; go_simp; first | done | exact ⟨rfl, rfl⟩ | exact rfl); (go_simp; refine hK _ ?_; clear hK K)
            refine ord_still rfl rfl (fun K hK => ?_); apply Exists.intro; refine ⟨fun w' hw' => ?_, ?_⟩; (obtain ⟨z0, z1, z2, y0, y1, y2⟩ := HX.out w' hw'; go_simp; first | done | exact ⟨rfl, rfl⟩ | exact rfl); (go_simp; refine hK _ ?_; clear hK K)
            refine ord_still rfl rfl (fun K hK => ?_); apply Exists.intro; refine ⟨fun w' hw' => ?_, ?_⟩; (obtain ⟨z0, z1, z2, y0, y1, y2⟩ := HX.out w' hw'; go_simp; first | done | exact ⟨rfl, rfl⟩ | exact rfl); (go_simp; refine hK _ ?_; clear hK K)
            refine ord_still rfl rfl (fun K hK => ?_); apply Exists.intro; refine ⟨fun w' hw' => ?_, ?_⟩; (obtain ⟨z0, z1, z2, y0, y1, y2⟩ := HX.out w' hw'; go_simp; first | done | exact ⟨rfl, rfl⟩ | exact rfl); (go_simp; refine hK _ ?_; clear hK K)
            refine ord_sole rfl rfl (fun K hK => ?_); go_simp
            refine (slots_All B g A1 c1 T _ (HSK5.out.of_below (Below.refl _ _).drew)).mono ?_
            rintro e u1 ⟨a6, c6, rfl, ho6, hb6⟩
            have hc' := below_step (Below.refl W5.heap.size W5).drew (Nat.le_refl _) hb6
            refine ⟨_, rfl, hc', ?_⟩
            go_simp
            refine hK _ _ ?_; clear hK K
            have HC1 := Lib.hid hc'; clear hc' hb6
            refine ord_sole rfl rfl (fun K hK => ?_); go_simp
            refine (law11_To a6 c6 T u1 (own_rw ho6) hT1).mono ?_
            rintro e u2 ⟨a7, c7, rfl, ho7, hb7⟩
            have hc' := below_step HC1.out HC1.out.size hb7
            refine ⟨_, rfl, hc', ?_⟩
            go_simp
            refine hK _ _ ?_; clear hK K
            have HC2 := Lib.hid hc'; clear hc' hb7 ho6
            have heq := slices_Equal_rslot a7 (some ⟨bd, offd, none⟩) c7 cd1 T T u2 (own_rw ho7) ((own_rw HRR5.out).below HC2.out) (by omega) (by omega)
            rw [decide_eq_true rfl] at heq
            have HEQ := Lib.hid heq; clear heq
            refine ord_sole rfl rfl (fun K hK => ?_); go_simp
            refine (HEQ.out).mono ?_
            rintro e u3 ⟨rfl, q3, rfl⟩
            have hc' := below_drewN HC2.out q3
            refine ⟨_, rfl, hc', ?_⟩
            go_simp
            refine hK _ _ ?_; clear hK K
            have HC3 := Lib.hid hc'; clear hc' ho7 HEQ
            refine ord_still rfl rfl (fun K hK => ?_); apply Exists.intro; refine ⟨fun w' hw' => ?_, ?_⟩; (obtain ⟨z0, z1, z2, y0, y1, y2⟩ := HX.out w' hw'; go_simp; first | done | exact ⟨rfl, rfl⟩ | exact rfl); (go_simp; refine hK _ ?_; clear hK K)
            refine ord_still rfl rfl (fun K hK => ?_); apply Exists.intro; refine ⟨fun w' hw' => ?_, ?_⟩; (obtain ⟨z0, z1, z2, y0, y1, y2⟩ := HX.out w' hw'; go_simp; first | done | exact ⟨rfl, rfl⟩ | exact rfl); (go_simp; refine hK _ ?_; clear hK K)
            refine ord_still rfl rfl (fun K hK => ?_); apply Exists.intro; refine ⟨fun w' hw' => ?_, ?_⟩; (obtain ⟨z0, z1, z2, y0, y1, y2⟩ := HX.out w' hw'; go_simp; first | done | exact ⟨rfl, rfl⟩ | exact rfl); (go_simp; refine hK _ ?_; clear hK K)
            refine ord_still rfl rfl (fun K hK => ?_); apply Exists.intro; refine ⟨fun w' hw' => ?_, ?_⟩; (obtain ⟨z0, z1, z2, y0, y1, y2⟩ := HX.out w' hw'; go_simp; first | done | exact ⟨rfl, rfl⟩ | exact rfl); (go_simp; refine hK _ ?_; clear hK K)
            refine ord_still rfl rfl (fun K hK => ?_); apply Exists.intro; refine ⟨fun w' hw' => ?_, ?_⟩; (obtain ⟨z0, z1, z2, y0, y1, y2⟩ := HX.out w' hw'; go_simp; first | done | exact ⟨rfl, rfl⟩ | exact rfl); (go_simp; refine hK _ ?_; clear hK K)
            refine ord_sole rfl rfl (fun K hK => ?_); go_simp
            refine (slots_Waiting B g A1 c1 T _ (HSK5.out.of_below HC3.out)).mono ?_
            rintro e u4 ⟨rfl, hb8⟩
            have hc' := below_step HC3.out HC3.out.size hb8
            refine ⟨_, rfl, hc', ?_⟩
            go_simp
            refine hK _ _ ?_; clear hK K
            have HC4 := Lib.hid hc'; clear hc' hb8
            refine ord_sole rfl rfl (fun K hK => ?_); go_simp
            refine (ref11_Waiting (some ⟨bd, offd, none⟩) cd1 T u4 ((own_rw HRR5.out).below HC4.out) hT1).mono ?_
            rintro e u5 ⟨rfl, hb9⟩
            have hc' := below_step HC4.out HC4.out.size hb9
            refine ⟨_, rfl, hc', ?_⟩
            go_simp
            refine hK _ _ ?_; clear hK K
            have HC5 := Lib.hid hc'; clear hc' hb9
            refine ord_still rfl rfl (fun K hK => ?_); apply Exists.intro; refine ⟨fun w' hw' => ?_, ?_⟩; (obtain ⟨z0, z1, z2, y0, y1, y2⟩ := HX.out w' hw'; go_simp; first | done | exact ⟨rfl, rfl⟩ | exact rfl); (go_simp; refine hK _ ?_; clear hK K)
            refine ord_still rfl rfl (fun K hK => ?_); apply Exists.intro; refine ⟨fun w' hw' => ?_, ?_⟩; (obtain ⟨z0, z1, z2, y0, y1, y2⟩ := HX.out w' hw'; go_simp; first | done | exact ⟨rfl, rfl⟩ | exact rfl); (go_simp; refine hK _ ?_; clear hK K)
            refine ord_nil ?_
            intro hCx
            go_wp2
            go_roundg (ls.length - (k + 1))
            case measure => omega
            case rel => exact ⟨k + 1, g, A1, c1, T, (some ⟨bd, offd, none⟩), cd1, rfl, by omega, rfl, rfl, by go_num, hTk, (show Hid _ from ⟨HSK5.out.of_below HC5.out, own_below HRR5.out HC5.out, hgB, below_step HBL5.out HBL5.out.size HC5.out⟩)⟩
    · go_wp2
      go_ret
      exact ⟨rfl, HR.out.bl⟩
end Go.Proofs.YtonfaojmphidpaaGreatDoor
