/- Chapter 11: the document's answer (ref11) and the law's To. -/
import Derived.Test.YtonfaojmphidpaaGreatDoorSlotsP
import Derived.Test.YtonfaojmphidpaaGreatDoorSlEq
import Derived.OwnWalk
import Derived.Deep.RegionLaw
namespace Go.Proofs.YtonfaojmphidpaaGreatDoor
open Go.RowKit
set_option linter.unusedVariables false
set_option linter.unusedSimpArgs false

theorem Tryz.infoRSlot : (Tryz.prog.info? 79).map (fun i => (i.zero, i.size, i.bytes)) = some (some (.agg #[.int .i64 0, .int .u64 0, .int .u64 0]), 3, 24) := by kernel_rfl
/-- The document's slots at a read as L, in a row of their own, B or above. -/
def Rr (w : World) (B : Nat) (a : Option Addr) (c : Nat) (L : List Sv) : Prop := w.ownsRow B 79 3 (.slice a L.length c) L.length (cellsOf Sv.cells L)

set_option maxHeartbeats 2000000 in
theorem ref11_Of (a : Option Addr) (cap : Nat) (L : List Sv) (th : Int) (w : World) (h : Rw Sv.cells 3 w a cap L) (hl : L.length ≤ 1000000) :
    Calls Tryz.prog 40 #[.slice a L.length cap, .int .i64 th] w fun e w' => e = .returned (.int .i64 (fidx (fun x : Sv => x.th == th) L)) ∧ RowKit.Below w.heap.size w w' := by
  go_enter Tryz.func40, Tryz.ntmps40
  go_wp2
  go_loopg [9] L.length (fun gg i wr => ∃ kk : Nat, kk ≤ L.length ∧ L.length - kk ≤ gg ∧ i = .int .i64 kk ∧ Hid (RowKit.Below w.heap.size w wr) ∧ Hid (∀ (j : Nat) (y : Sv), j < kk → L[j]? = some y → (y.th == th) = false))
  case atStart => exact ⟨0, Nat.zero_le _, by omega, rfl, Below.refl _ w, fun j y hj => absurd hj (Nat.not_lt_zero _)⟩
  case round =>
    obtain ⟨kk, hkk, hg, rfl, BW, A⟩ := hrel
    by_cases hlt : kk < L.length
    · obtain ⟨b, off, rfl, hb, hc⟩ := h.at_ Sv.cells_length (by omega)
      obtain ⟨y, hy⟩ : ∃ y, L[kk]? = some y := ⟨_, List.getElem?_eq_getElem hlt⟩
      obtain ⟨ya, yb, yc⟩ := y
      have c0 : wr.cell? ⟨b, off + kk * 3, none⟩ = some (.int .i64 ya) := (BW.out.cell (p := ⟨b, off + kk * 3, none⟩) hb).trans (hc kk _ hy 0 _ rfl)
      have c1 : wr.cell? ⟨b, off + kk * 3 + 1, none⟩ = some (.int .u64 yb) := (BW.out.cell (p := ⟨b, off + kk * 3 + 1, none⟩) hb).trans (hc kk _ hy 1 _ rfl)
      have c2 : wr.cell? ⟨b, off + kk * 3 + 2, none⟩ = some (.int .u64 yc) := (BW.out.cell (p := ⟨b, off + kk * 3 + 2, none⟩) hb).trans (hc kk _ hy 2 _ rfl)
      clear hc h
      have B : Hid (L[kk]? = some ⟨ya, yb, yc⟩) := hy
      clear hy
      by_cases hq : ya = th
      · subst hq
        go_wp2
        go_ret
        exact ⟨ret_int (fidx_hit B.out (by simp) A.out).symm, BW.out.alloc BW.out.size _⟩
      · have hq' : (ya == th) = false := by simpa using hq
        go_wp2
        go_roundg (L.length - (kk + 1))
        case measure => omega
        case rel =>
          refine ⟨kk + 1, by omega, by omega, by go_num, BW.out.alloc BW.out.size _, (show Hid _ from fun j z hj hz => ?_)⟩
          by_cases e : j = kk
          · subst e
            rw [B.out] at hz; cases hz; exact hq'
          · exact A.out j z (by omega) hz
    · have : kk = L.length := by omega
      subst this
      go_wp2
      go_ret
      refine ⟨ret_int (fidx_miss fun j y hy => A.out j y (List.getElem?_eq_some_iff.1 hy).1 hy).symm, BW.out⟩

set_option maxHeartbeats 2000000 in
theorem ref11_Waiting (a : Option Addr) (cap : Nat) (L : List Sv) (w : World) (h : Rw Sv.cells 3 w a cap L) (hl : L.length ≤ 1000) :
    Calls Tryz.prog 43 #[.slice a L.length cap] w fun e w' => e = .returned (.int .i64 (waitS L)) ∧ RowKit.Below w.heap.size w w' := by
  have HR := Lib.hid h; clear h
  go_enter Tryz.func43, Tryz.ntmps43
  go_wp2
  go_loopw [3, 8] (fun n i wr => ∃ k : Nat, k ≤ L.length ∧ i = .int .i64 k ∧ n = .int .i64 (waitS (L.take k)) ∧ RowKit.Below w.heap.size w wr) (fun _ i _ => L.length - (intOf i).toNat)
  case atStart => exact ⟨0, Nat.zero_le _, rfl, rfl, Below.refl _ _⟩
  case round =>
    obtain ⟨k, hk, rfl, rfl, hB⟩ := hrel
    have hwl := waitS_le (L.take k)
    have hwl2 : (L.take k).length ≤ k := List.length_take_le _ _
    by_cases hlt : k < L.length
    · obtain ⟨b, off, rfl, hb, hc⟩ := HR.out.at_ Sv.cells_length (by omega)
      obtain ⟨y, hy⟩ : ∃ y, L[k]? = some y := ⟨_, List.getElem?_eq_getElem hlt⟩
      have hsn := waitS_snoc hy
      obtain ⟨ya, yb, yc⟩ := y
      have c0 : wr.cell? ⟨b, off + k * 3, none⟩ = some (.int .i64 ya) := (hB.cell (p := ⟨b, off + k * 3, none⟩) hb).trans (hc k _ hy 0 _ rfl)
      have c1 : wr.cell? ⟨b, off + k * 3 + 1, none⟩ = some (.int .u64 yb) := (hB.cell (p := ⟨b, off + k * 3 + 1, none⟩) hb).trans (hc k _ hy 1 _ rfl)
      have c2 : wr.cell? ⟨b, off + k * 3 + 2, none⟩ = some (.int .u64 yc) := (hB.cell (p := ⟨b, off + k * 3 + 2, none⟩) hb).trans (hc k _ hy 2 _ rfl)
      dsimp only at hsn
      clear hc hy
      have HSN := Lib.hid hsn; clear hsn
      have HBr := Lib.hid hB; clear hB
      by_cases hz : yc = 0
      · subst hz
        go_wp2
        go_roundw
        case rel => exact ⟨k + 1, by omega, by go_num, by rw [HSN.out, if_pos rfl]; go_num, HBr.out.alloc HBr.out.size _⟩
        case measure => simp [intOf]; omega
      · have hz' : (yc == 0) = false := by simpa using hz
        go_wp2
        go_roundw
        case rel => exact ⟨k + 1, by omega, by go_num, by rw [HSN.out, if_neg hz, Nat.add_zero], HBr.out.alloc HBr.out.size _⟩
        case measure => simp [intOf]; omega
    · go_wp2
      go_ret
      exact ⟨ret_int (by rw [List.take_of_length_le (by omega)]), hB⟩

set_option maxHeartbeats 1000000 in
theorem ref11_Park_had (a : Option Addr) (c : Nat) (L : List Sv) (th d : Int) (w : World) (h : Rw Sv.cells 3 w a c L) (hl : L.length ≤ 1000000) (hx : 0 ≤ fidx (fun x : Sv => x.th == th) L) :
    Calls Tryz.prog 38 #[.slice a L.length c, .int .i64 th, .int .u64 d] w fun e w' => e = .returned (.tuple #[.slice a L.length c, .int .i64 10]) ∧ RowKit.Below w.heap.size w w' := by
  have hof := ref11_Of a c L th w h hl
  generalize fidx (fun x : Sv => x.th == th) L = r at hof hx
  have HOF := Lib.hid hof; clear hof h
  go_enter Tryz.func38, Tryz.ntmps38
  go_wp2_with (go_at_call 40; refine HOF.out.mono ?_; rintro e w1 ⟨rfl, hb⟩)
  go_ret2
  exact ⟨rfl, hb⟩
set_option maxHeartbeats 1000000 in
theorem ref11_Park_new (a : Option Addr) (c : Nat) (L : List Sv) (th d : Int) (w : World) (h : Rw Sv.cells 3 w a c L) (hl : L.length ≤ 1000) (hx : fidx (fun x : Sv => x.th == th) L < 0) :
    Calls Tryz.prog 38 #[.slice a L.length c, .int .i64 th, .int .u64 d] w fun e w' => ∃ a' c', e = .returned (.tuple #[.slice a' (L ++ [(⟨th, d, 0⟩ : Sv)]).length c', .int .i64 0]) ∧ Rr w' w.heap.size a' c' (L ++ [⟨th, d, 0⟩]) ∧ RowKit.Below w.heap.size w w' := by
  have hof := ref11_Of a c L th w h (by omega)
  generalize fidx (fun x : Sv => x.th == th) L = r at hof hx
  have HOF := Lib.hid hof; clear hof
  have HH := Lib.hid h; clear h
  go_enter Tryz.func38, Tryz.ntmps38
  go_wp2_with fail
  refine HOF.out.mono ?_
  rintro e w1 ⟨rfl, hb⟩
  have HB := Lib.hid hb; clear hb
  have hsz := HB.out.size
  have HR1 := Lib.hid (HH.out.below HB.out).rd
  have HN1 := Lib.hid (World.ownsRow_nil w1 w1.heap.size 79 3)
  go_wp2_with (first
    | (at_builtin; refine app_own _ rfl _ _ 65 rfl w1.heap.size 79 (.agg #[.int .i64 0, .int .u64 0, .int .u64 0]) 3 24 Tryz.underlying65 Tryz.infoRSlot rfl (by decide) (.slice none 0 0) 0 [] rfl HN1.out a L.length c _ rfl HR1.out (cellsOf_one Sv.cells_one L) (by omega) (by omega) (Nat.le_refl _) ?_; intro A2 c2 w2 h2 h3 h4; rw [Nat.zero_add, List.nil_append] at h2; have hs2 := h3.size; have H2 := Lib.hid h2; clear h2; have H3 := Lib.hid h3; clear h3 h4)
    | (at_builtin; refine app_one w2 rfl (.tmp 17) (.tmp 21) 65 rfl w1.heap.size 79 (.agg #[.int .i64 0, .int .u64 0, .int .u64 0]) 3 24 Tryz.underlying65 Tryz.infoRSlot rfl (by decide) (.slice A2 L.length c2) L.length _ rfl H2.out [.int .i64 th, .int .u64 d, .int .u64 0] rfl rfl (by simp [Value.oneCell']) (by omega) (by omega) hs2 ?_; intro A3 c3 w3 h5 h6 h7; have H5 := Lib.hid h5; clear h5; have H6 := Lib.hid h6; clear h6 h7))
  go_ret2
  have e1 : (L ++ [(⟨th, d, 0⟩ : Sv)]).length = L.length + 1 := by simp
  have e2 : cellsOf Sv.cells (L ++ [(⟨th, d, 0⟩ : Sv)]) = cellsOf Sv.cells L ++ [.int .i64 th, .int .u64 d, .int .u64 0] := by rw [cellsOf_snoc]; rfl
  refine ⟨A3, c3, by rw [e1]; rfl, ?_, ?_⟩
  · unfold Rr; rw [e1, e2]; exact own_mono H5.out hsz
  · have b2 := HB.out.grown H3.out hsz (fun z hz => by simp [Value.ownBlock] at hz)
    exact b2.grown H6.out (by omega) (fun z hz => by have := own_base H2.out z hz; omega)

/-- append(v, xs...) in a drawn region, v a row of the call's own. -/
theorem step_app_own {P : Program} {ops : Array Oper} {o : Oper} {a : Act} {K : Act → World → Prop} {Q : Exit → Act → World → Prop} {E : Prop} (w : World) (hgd : o.guard = none) (s x : Operand) (t : TypeId) (ho : o.op = .call { callee := .builtin .append, args := #[s, x], argTypes := #[t, t] })
    (base : Nat) (e : TypeId) (z : Value) (size bytes : Nat) (ht : P.underlying t = some (.slice e))
    (hinfo : (P.info? e).map (fun i => (i.zero, i.size, i.bytes)) = some (some z, size, bytes)) (hz : z.cells.size = size) (hs0 : 0 < size)
    (v : Value) (n : Nat) (olds : List Value) (hs : a.eval s = v) (HO : w.ownsRow base e size v n olds)
    (A : Option Addr) (m c : Nat) (news : List Value) (hx : a.eval x = .slice A m c) (HR : Rd size w A m c news) (h1 : ∀ u ∈ news, u.oneCell' = true)
    (h63 : n + m ≤ 9223372036854775807) (hl : (n + m) * bytes ≤ 140737488355328) (hbase : base ≤ w.heap.size)
    (h : ∀ A1 c1 w1, w1.ownsRow base e size (.slice A1 (n + m) c1) (n + m) (olds ++ news) → w.grownBy w1 v.ownBlock → K (a.put o.dst (.slice A1 (n + m) c1)) w1) :
    if Region.wanted o (yielded ops a.tmps) = true then Oper.wp P o a w K Q else E := by
  have hw : Region.wanted o (yielded ops a.tmps) = true := by simp [Region.wanted, hgd]
  rw [if_pos hw]
  obtain ⟨A1, c1, w1, hrun, h2, h3, h4⟩ := run_app_own (P := P) w base t o.type e z size bytes ht hinfo hz hs0 v n olds HO A m c news HR h1 h63 hl hbase
  unfold Oper.wp execOp
  simp only [ho, resolve, invoke, builtin, Sem.run_bind, Sem.run_pure, Result.andThen_ok, List.map_toArray, List.map_cons, List.map_nil, hs, hx, hrun]
  exact h A1 c1 w1 h2 h3

set_option maxHeartbeats 1000000 in
theorem ref11_Take_no (a : Option Addr) (c : Nat) (L : List Sv) (th : Int) (w : World) (h : Rw Sv.cells 3 w a c L) (hl : L.length ≤ 1000000) (hx : fidx (fun x : Sv => x.th == th) L < 0) :
    Calls Tryz.prog 37 #[.slice a L.length c, .int .i64 th] w fun e w' => e = .returned (.tuple #[.slice a L.length c, .int .u64 0, .bool false]) ∧ RowKit.Below w.heap.size w w' := by
  have hof := ref11_Of a c L th w h hl
  generalize fidx (fun x : Sv => x.th == th) L = r at hof hx
  have HOF := Lib.hid hof; clear hof h
  go_enter Tryz.func37, Tryz.ntmps37
  go_wp2_with (go_at_call 40; refine HOF.out.mono ?_; rintro e w1 ⟨rfl, hb⟩)
  go_ret3
  exact ⟨rfl, hb⟩


set_option maxHeartbeats 2000000 in
theorem ref11_Fill_none (a : Option Addr) (cap : Nat) (L : List Sv) (w : World) :
    Calls Tryz.prog 36 #[.slice a L.length cap, .int .u64 0] w fun e w' => e = .returned (.tuple #[.slice a L.length cap, .int .i64 0, .bool false]) ∧ RowKit.Below w.heap.size w w' := by
  go_enter Tryz.func36, Tryz.ntmps36
  go_wp2
  go_ret3
  exact ⟨rfl, Below.refl _ _⟩

/-- Ends of the document's Fill. -/
def FillEnd (a : Option Addr) (cap : Nat) (L : List Sv) (id : Int) (w : World) (e : Ending) (w' : World) : Prop :=
  RowKit.Below w.heap.size w w' ∧ ((fidx (fun x : Sv => x.id == 0) L < 0 ∧ e = .returned (.tuple #[.slice a L.length cap, .int .i64 0, .bool false])) ∨
    ∃ (k : Nat) (x : Sv) (a' : Option Addr) (c' : Nat), fidx (fun x : Sv => x.id == 0) L = k ∧ L[k]? = some x ∧ e = .returned (.tuple #[.slice a' (L.set k ⟨x.th, x.dl, id⟩).length c', .int .i64 x.th, .bool true]) ∧ Rr w' w.heap.size a' c' (L.set k ⟨x.th, x.dl, id⟩))

set_option maxHeartbeats 4000000 in
theorem ref11_Fill (a : Option Addr) (cap : Nat) (L : List Sv) (id : Int) (w : World) (h : Rw Sv.cells 3 w a cap L) (hl : L.length ≤ 1000) (hid : id ≠ 0) :
    Calls Tryz.prog 36 #[.slice a L.length cap, .int .u64 id] w (FillEnd a cap L id w) := by
  have hid' : (id == 0) = false := by simpa using hid
  go_enter Tryz.func36, Tryz.ntmps36
  go_wp2
  go_loopg [15] L.length (fun gg i wr => ∃ kk : Nat, kk ≤ L.length ∧ L.length - kk ≤ gg ∧ i = .int .i64 kk ∧ Hid (RowKit.Below w.heap.size w wr) ∧ Hid (∀ (j : Nat) (y : Sv), j < kk → L[j]? = some y → (y.id == 0) = false))
  case atStart => exact ⟨0, Nat.zero_le _, by omega, rfl, Below.refl _ w, fun j y hj => absurd hj (Nat.not_lt_zero _)⟩
  case round =>
    obtain ⟨kk, hkk, hg, rfl, BW, A⟩ := hrel
    by_cases hlt : kk < L.length
    · have h' := h
      obtain ⟨b, off, rfl, hb, hc⟩ := h.at_ Sv.cells_length (by omega)
      obtain ⟨y, hy⟩ : ∃ y, L[kk]? = some y := ⟨_, List.getElem?_eq_getElem hlt⟩
      obtain ⟨ya, yb, yc⟩ := y
      have c0 : wr.cell? ⟨b, off + kk * 3, none⟩ = some (.int .i64 ya) := (BW.out.cell (p := ⟨b, off + kk * 3, none⟩) hb).trans (hc kk _ hy 0 _ rfl)
      have c1 : wr.cell? ⟨b, off + kk * 3 + 1, none⟩ = some (.int .u64 yb) := (BW.out.cell (p := ⟨b, off + kk * 3 + 1, none⟩) hb).trans (hc kk _ hy 1 _ rfl)
      have c2 : wr.cell? ⟨b, off + kk * 3 + 2, none⟩ = some (.int .u64 yc) := (BW.out.cell (p := ⟨b, off + kk * 3 + 2, none⟩) hb).trans (hc kk _ hy 2 _ rfl)
      clear hc
      have B : Hid (L[kk]? = some ⟨ya, yb, yc⟩) := hy
      clear hy
      by_cases hq : yc = 0
      · subst hq
        have hal := (RowKit.Below.refl wr.heap.size wr).alloc (Nat.le_refl _) (.cells #[.int .i64 ya, .int .u64 yb, .int .u64 0] 79)
        have hkn := Blk.new wr 79 #[.int .i64 ya, .int .u64 yb, .int .u64 0]
        have HKN := Lib.hid hkn; clear hkn
        have hbl := below_step BW.out BW.out.size hal
        have HRD := Lib.hid (h'.below hbl).rd
        have HBL := Lib.hid hbl; clear hbl hal h'
        have hws : w.heap.size ≤ wr.heap.size := BW.out.size
        have HN1 := Lib.hid (World.ownsRow_nil (wr.alloc (.cells #[.int .i64 ya, .int .u64 yb, .int .u64 0] 79)) (wr.heap.size + 1) 79 3)
        have hsa : wr.heap.size + 1 ≤ (wr.alloc (.cells #[.int .i64 ya, .int .u64 yb, .int .u64 0] 79)).heap.size := by rw [size_alloc]; exact Nat.le_refl _
        go_wp2_with (at_builtin; refine app_own _ rfl _ _ 65 rfl (wr.heap.size + 1) 79 (.agg #[.int .i64 0, .int .u64 0, .int .u64 0]) 3 24 Tryz.underlying65 Tryz.infoRSlot rfl (by decide) (.slice none 0 0) 0 [] rfl HN1.out (some ⟨b, off, none⟩) L.length cap _ rfl HRD.out (cellsOf_one Sv.cells_one _) (by omega) (by omega) hsa ?_; intro A2 c2 w2 h2 h3 h4; rw [Nat.zero_add, List.nil_append] at h2; have hs2 := h3.size; obtain ⟨b2, cur2, rfl, hb2B, hk2, -, -, -, hcu2⟩ := own_at h2 (by omega); have p0 := hk2.frozen (kk * 3 + 2); have p1 := hk2.lt; have q0 : w2.cell? ⟨b2, kk * 3 + 2, none⟩ = some (.int .u64 0) := (by rw [hk2.cell, hcu2 _ (by omega), cellsOf_get Sv.cells_length B.out (by decide)]; rfl); have hn2 : Blk w2 wr.heap.size 79 #[.int .i64 ya, .int .u64 yb, .int .u64 0] := (h3.block _ HKN.out.lt (by simp [Value.ownBlock])).trans HKN.out; have r0 := hn2.cell 0; have r1 := hn2.lt; simp only [List.getElem?_toArray, List.getElem?_cons_zero] at r0; have H2 := Lib.hid h2; clear h2; have H3 := Lib.hid h3; clear h3 h4 hk2 hcu2 hn2)
        have hne1 : b2 ≠ wr.heap.size := by omega
        have hne2 : wr.heap.size ≠ b2 := by omega
        go_region
        all_goals (
          go_wp2
          go_ret3
          have hbl3 := HBL.out.grown H3.out HBL.out.size (fun z hz => by simp [Value.ownBlock] at hz)
          have hbl4 := hbl3.setCell (p := ⟨b2, kk * 3 + 2, none⟩) (by dsimp only; omega) (.int .u64 id)
          have hset := own_set H2.out (kk * 3 + 2) (by omega) (.int .u64 id)
          rw [cellsOf_set (f := Sv.cells) (y := ⟨ya, yb, id⟩) Sv.cells_length B.out (by decide) rfl] at hset
          refine ⟨⟨hbl4.os, hbl4.tape, hbl4.output, hbl4.size, hbl4.block⟩, .inr ⟨kk, ⟨ya, yb, 0⟩, some ⟨b2, 0, none⟩, c2, fidx_hit B.out (by simp) A.out, B.out, by rw [List.length_set]; rfl, ?_⟩⟩
          unfold Rr
          rw [List.length_set]
          exact own_mono hset (by omega))
      · have hq' : (yc == 0) = false := by simpa using hq
        clear h'
        go_wp2
        go_roundg (L.length - (kk + 1))
        case measure => omega
        case rel =>
          refine ⟨kk + 1, by omega, by omega, by go_num, BW.out.alloc BW.out.size _, (show Hid _ from fun j z hj hz => ?_)⟩
          by_cases e : j = kk
          · subst e
            rw [B.out] at hz; cases hz; exact hq'
          · exact A.out j z (by omega) hz
    · have : kk = L.length := by omega
      subst this
      go_wp2
      go_ret3
      exact ⟨BW.out, .inl ⟨by rw [fidx_miss fun j y hy => A.out j y (List.getElem?_eq_some_iff.1 hy).1 hy]; decide, rfl⟩⟩
end Go.Proofs.YtonfaojmphidpaaGreatDoor
