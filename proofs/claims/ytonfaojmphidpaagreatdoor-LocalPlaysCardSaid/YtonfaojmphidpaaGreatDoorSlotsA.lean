/- Chapter 11: slots: New, All, index. -/
import Derived.Test.YtonfaojmphidpaaGreatDoorZA1
import Derived.Test.YtonfaojmphidpaaGreatDoorZA4
import Derived.Deep.LoopGhost
import Derived.Shelf.SlicesQ.Load
namespace Go.Proofs.YtonfaojmphidpaaGreatDoor
open Go.RowKit
set_option linter.unusedVariables false
set_option linter.unusedSimpArgs false

/-- A slot: the thread, the deadline, the id. -/
structure Sv where
  th : Int
  dl : Int
  id : Int
deriving DecidableEq
instance : Inhabited Sv := ⟨⟨0, 0, 0⟩⟩
def Sv.cells (x : Sv) : List Value := [.int .i64 x.th, .int .u64 x.dl, .int .u64 x.id]
theorem Sv.cells_length (x : Sv) : x.cells.length = 3 := rfl
theorem Sv.cells_one (x : Sv) : ∀ u ∈ x.cells, u.oneCell' = true := by intro u hu; simp [Sv.cells] at hu; rcases hu with rfl | rfl | rfl <;> rfl

/-- The first place at which p holds, or -1. -/
def fidx {α : Type} (p : α → Bool) (L : List α) : Int := match L.findIdx? p with | some i => i | none => -1
theorem fidx_hit {α : Type} {p : α → Bool} {L : List α} {k : Nat} {x : α} (hk : L[k]? = some x) (hx : p x = true) (hno : ∀ (j : Nat) (y : α), j < k → L[j]? = some y → p y = false) : fidx p L = k := by
  obtain ⟨hl, rfl⟩ := List.getElem?_eq_some_iff.1 hk
  have : L.findIdx? p = some k := by
    rw [List.findIdx?_eq_some_iff_getElem]
    exact ⟨hl, hx, fun j hj => by
      have hjl : j < L.length := by omega
      have := hno j L[j] hj (List.getElem?_eq_getElem hjl); simpa using this⟩
  unfold fidx; rw [this]
theorem fidx_miss {α : Type} {p : α → Bool} {L : List α} (hno : ∀ (j : Nat) (y : α), L[j]? = some y → p y = false) : fidx p L = -1 := by
  have : L.findIdx? p = none := by
    rw [List.findIdx?_eq_none_iff]
    intro y hy
    obtain ⟨j, hj, rfl⟩ := List.mem_iff_getElem.1 hy
    simpa using hno j L[j] (List.getElem?_eq_getElem hj)
  unfold fidx; rw [this]
theorem fidx_cases {α : Type} (p : α → Bool) (L : List α) : (fidx p L = -1 ∧ ∀ x ∈ L, p x = false) ∨ ∃ k x, fidx p L = (k : Nat) ∧ L[k]? = some x ∧ p x = true ∧ ∀ (j : Nat) (y : α), j < k → L[j]? = some y → p y = false := by
  unfold fidx
  cases h : L.findIdx? p with
  | none =>
    rw [List.findIdx?_eq_none_iff] at h
    exact .inl ⟨rfl, fun x hx => by simpa using h x hx⟩
  | some k =>
    rw [List.findIdx?_eq_some_iff_getElem] at h
    obtain ⟨hk, hx, hno⟩ := h
    refine .inr ⟨k, L[k], rfl, List.getElem?_eq_getElem hk, hx, fun j y hj hy => ?_⟩
    obtain ⟨hj', rfl⟩ := List.getElem?_eq_some_iff.1 hy
    simpa using hno j hj

set_option maxHeartbeats 2000000 in
theorem slices_IndexFunc_slot (p : Sv → Bool) (g : Nat) (lb : Array Value) (eg : ∀ args w, (callFunc g args).run Tryz.prog w = .ok (.enter g args) w) (a : Option Addr) (cap : Nat) (L : List Sv) (w : World) (h : Rw Sv.cells 3 w a cap L) (hl : L.length ≤ 1000000)
    (hp : ∀ (W : World) (x : Sv), RowKit.Below w.heap.size w W → Calls Tryz.prog g (#[.agg x.cells.toArray] ++ lb) W fun e w' => e = .returned (.bool (p x)) ∧ RowKit.Below w.heap.size w w') :
    Calls Tryz.prog 85 #[.slice a L.length cap, .func (.func g) #[] lb] w fun e w' => e = .returned (.int .i64 (fidx p L)) ∧ RowKit.Below w.heap.size w w' := by
  go_enter Tryz.func85, Tryz.ntmps85
  go_wp2
  go_loopg [5, 8] L.length (fun gg _ s8 wr => ∃ kk : Nat, kk ≤ L.length ∧ L.length - kk ≤ gg ∧ s8 = .int .i64 kk ∧ Hid (RowKit.Below w.heap.size w wr) ∧ Hid (∀ (j : Nat) (y : Sv), j < kk → L[j]? = some y → p y = false))
  case atStart => exact ⟨0, Nat.zero_le _, by omega, rfl, Below.refl _ w, fun j y hj => absurd hj (Nat.not_lt_zero _)⟩
  case round =>
    obtain ⟨kk, hkk, hg, rfl, BW, A⟩ := hrel
    by_cases hlt : kk < L.length
    · have hltz : (kk : Int) < (L.length : Int) := by omega
      obtain ⟨b, off, rfl, hb, hc⟩ := h.at_ Sv.cells_length (by omega)
      obtain ⟨y, hy⟩ : ∃ y, L[kk]? = some y := ⟨_, List.getElem?_eq_getElem hlt⟩
      obtain ⟨ya, yb, yc⟩ := y
      have c0 : wr.cell? ⟨b, off + kk * 3, none⟩ = some (.int .i64 ya) := (BW.out.cell (p := ⟨b, off + kk * 3, none⟩) hb).trans (hc kk _ hy 0 _ rfl)
      have c1 : wr.cell? ⟨b, off + kk * 3 + 1, none⟩ = some (.int .u64 yb) := (BW.out.cell (p := ⟨b, off + kk * 3 + 1, none⟩) hb).trans (hc kk _ hy 1 _ rfl)
      have c2 : wr.cell? ⟨b, off + kk * 3 + 2, none⟩ = some (.int .u64 yc) := (BW.out.cell (p := ⟨b, off + kk * 3 + 2, none⟩) hb).trans (hc kk _ hy 2 _ rfl)
      have hcall := hp wr ⟨ya, yb, yc⟩ BW.out
      simp only [Sv.cells] at hcall
      clear hp hc h
      have B : Hid (L[kk]? = some ⟨ya, yb, yc⟩) := hy
      clear hy
      cases hq : p ⟨ya, yb, yc⟩ with
      | true =>
        rw [hq] at hcall
        go_wp2_with (go_at_fn g; refine hcall.mono ?_; rintro e w' ⟨rfl, hb'⟩)
        go_ret
        exact ⟨ret_int (fidx_hit B.out hq A.out).symm, hb'⟩
      | false =>
        rw [hq] at hcall
        go_wp2_with (go_at_fn g; refine hcall.mono ?_; rintro e w' ⟨rfl, hb'⟩)
        go_roundg (L.length - (kk + 1))
        case measure => omega
        case rel =>
          refine ⟨kk + 1, by omega, by omega, by go_num, hb', (show Hid _ from fun j z hj hz => ?_)⟩
          by_cases e : j = kk
          · subst e
            rw [B.out] at hz; cases hz; exact hq
          · exact A.out j z (by omega) hz
    · have hltz : ¬ (kk : Int) < (L.length : Int) := by omega
      have : kk = L.length := by omega
      subst this
      go_wp2
      go_ret
      refine ⟨ret_int (fidx_miss fun j y hy => A.out j y (List.getElem?_eq_some_iff.1 hy).1 hy).symm, BW.out⟩

set_option maxHeartbeats 400000 in
theorem index1 (th : Int) (B : Nat) (W : World) (x : Sv) (hB : B < W.heap.size) (hcell : W.cell? ⟨B, 0, none⟩ = some (.int .i64 th)) :
    Calls Tryz.prog 103 (#[.agg x.cells.toArray] ++ #[.pointer (some ⟨B, 0, none⟩)]) W fun e w' => e = .returned (.bool (x.th == th)) ∧ RowKit.Below W.heap.size W w' := by
  obtain ⟨a, b, c⟩ := x
  show Calls Tryz.prog 103 #[.agg #[.int .i64 a, .int .u64 b, .int .u64 c], .pointer (some ⟨B, 0, none⟩)] W _
  go_enter Tryz.func103, Tryz.ntmps103
  go_wp2
  go_ret
  exact ⟨rfl, (Below.refl _ _).alloc (Nat.le_refl _) _⟩
set_option maxHeartbeats 400000 in
theorem fill1 (W : World) (x : Sv) :
    Calls Tryz.prog 86 (#[.agg x.cells.toArray] ++ #[]) W fun e w' => e = .returned (.bool (x.id == 0)) ∧ RowKit.Below W.heap.size W w' := by
  obtain ⟨a, b, c⟩ := x
  show Calls Tryz.prog 86 #[.agg #[.int .i64 a, .int .u64 b, .int .u64 c]] W _
  go_enter Tryz.func86, Tryz.ntmps86
  go_wp2
  go_ret
  exact ⟨rfl, (Below.refl _ _).alloc (Nat.le_refl _) _⟩

set_option maxHeartbeats 400000 in
theorem slots_New (w : World) :
    Calls Tryz.prog 29 #[] w fun e w' => e = .returned (.pointer (some ⟨w.heap.size, 0, none⟩)) ∧ w' = w.alloc (.cells #[.slice none 0 0] 141) := by
  go_enter Tryz.func29, Tryz.ntmps29
  go_wp2
  go_ret
  exact ⟨rfl, rfl⟩
/-- Block g is slots that read as L, in a row of their own, B or above. -/
structure Sk (w : World) (B g : Nat) (A : Option Addr) (c : Nat) (L : List Sv) : Prop where
  blk : Blk w g 141 #[.slice A L.length c]
  row : w.ownsRow B 75 3 (.slice A L.length c) L.length (cellsOf Sv.cells L)
  len : L.length ≤ 1000
theorem Sk.ne {w : World} {B g : Nat} {A : Option Addr} {c : Nat} {L : List Sv} (h : Sk w B g A c L) : (Value.slice A L.length c).ownBlock ≠ some g := own_apart h.row h.blk (by decide)
theorem Sk.rw {w : World} {B g : Nat} {A : Option Addr} {c : Nat} {L : List Sv} (h : Sk w B g A c L) : Rw Sv.cells 3 w A c L := own_rw h.row
theorem Sk.of_below {w w' : World} {B g : Nat} {A : Option Addr} {c : Nat} {L : List Sv} (h : Sk w B g A c L) (hb : RowKit.Below w.heap.size w w') : Sk w' B g A c L := ⟨h.blk.of_below hb, own_below h.row hb, h.len⟩

set_option maxHeartbeats 400000 in
theorem slots_All (B g : Nat) (A : Option Addr) (c : Nat) (L : List Sv) (w : World) (h : Sk w B g A c L) :
    Calls Tryz.prog 33 #[.pointer (some ⟨g, 0, none⟩)] w fun e w' => ∃ a' c', e = .returned (.slice a' L.length c') ∧ w'.ownsRow w.heap.size 75 3 (.slice a' L.length c') L.length (cellsOf Sv.cells L) ∧ RowKit.Below w.heap.size w w' := by
  have c0 := h.blk.cell 0
  have hlt := h.blk.lt
  simp only [List.getElem?_toArray, List.getElem?_cons_zero] at c0
  have hcl := slices_Clone_slot A L.length c _ w h.rw.rd (cellsOf_one Sv.cells_one L) (by have := h.len; omega)
  have HCL := Lib.hid hcl; clear hcl h
  go_enter Tryz.func33, Tryz.ntmps33
  go_wp2_with (go_at_call 56; refine HCL.out.mono ?_; rintro e w' ⟨a', c', rfl, h1, h2, h3⟩)
  go_ret
  exact ⟨a', c', rfl, h1, h3⟩

set_option maxHeartbeats 1000000 in
theorem slots_index (B g : Nat) (A : Option Addr) (c : Nat) (L : List Sv) (th : Int) (w : World) (h : Sk w B g A c L) :
    Calls Tryz.prog 84 #[.pointer (some ⟨g, 0, none⟩), .int .i64 th] w fun e w' => e = .returned (.int .i64 (fidx (fun x => x.th == th) L)) ∧ RowKit.Below w.heap.size w w' := by
  have eg : ∀ args w, (callFunc 103 args).run Tryz.prog w = .ok (.enter 103 args) w := enters_of Tryz.func103 (by kernel_rfl) rfl
  have hal := (RowKit.Below.refl w.heap.size w).alloc (Nat.le_refl _) (.cells #[.int .i64 th] 3)
  have hk := Blk.new w 3 #[.int .i64 th]
  have hall := slots_All B g A c L _ (h.of_below hal)
  have HALL := Lib.hid hall; clear hall
  have hle : L.length ≤ 1000000 := by have := h.len; omega
  clear h
  obtain ⟨r, hr⟩ : ∃ r, r = fidx (fun x : Sv => x.th == th) L := ⟨_, rfl⟩
  rw [← hr]
  have HR := Lib.hid hr; clear hr
  go_enter Tryz.func84, Tryz.ntmps84
  go_wp2_with fail
  refine HALL.out.mono ?_
  rintro e w2 ⟨a', c', rfl, ho, hb2⟩
  have hk2 := hk.of_below hb2
  have hsz := hb2.size
  rw [size_alloc] at hsz
  have hidx := slices_IndexFunc_slot (fun x => x.th == th) 103 #[.pointer (some ⟨w.heap.size, 0, none⟩)] eg a' c' L w2 (own_rw ho) hle (fun W x hW => by
    have hkW := hk2.of_below hW
    refine (index1 th w.heap.size W x hkW.lt (by rw [hkW.cell]; rfl)).mono ?_
    rintro e w' ⟨he, hb'⟩
    exact ⟨he, below_step hW hW.size hb'⟩)
  rw [← HR.out] at hidx
  have HIDX := Lib.hid hidx; clear hidx
  have HB2 := Lib.hid (below_step hal (by rw [size_alloc]; omega) hb2); clear hb2 hal hk
  go_wp2_with fail
  refine HIDX.out.mono ?_
  rintro e w3 ⟨rfl, hb3⟩
  go_wp2_with fail
  go_ret
  exact ⟨rfl, below_step HB2.out (by omega) hb3⟩
end Go.Proofs.YtonfaojmphidpaaGreatDoor
