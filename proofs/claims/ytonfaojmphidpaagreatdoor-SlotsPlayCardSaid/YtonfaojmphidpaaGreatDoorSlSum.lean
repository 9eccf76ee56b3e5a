/- Chapter 11: what each act comes to, of the slots and of the document's, in plain functions. -/
import Derived.Test.YtonfaojmphidpaaGreatDoorRef11T
import Derived.Test.YtonfaojmphidpaaGreatDoorRef11O
namespace Go.Proofs.YtonfaojmphidpaaGreatDoor
open Go.RowKit
set_option linter.unusedVariables false
set_option linter.unusedSimpArgs false

def ix0 (L : List Sv) : Int := fidx (fun x : Sv => x.id == 0) L
def ixT (L : List Sv) (th : Int) : Int := fidx (fun x : Sv => x.th == th) L
def fillL (L : List Sv) (id : Int) : List Sv := if ix0 L < 0 ∨ id = 0 then L else L.set (ix0 L).toNat ⟨(L.getD (ix0 L).toNat default).th, (L.getD (ix0 L).toNat default).dl, id⟩
def fillT (L : List Sv) (id : Int) : Int := if ix0 L < 0 ∨ id = 0 then 0 else (L.getD (ix0 L).toNat default).th
def fillB (L : List Sv) (id : Int) : Bool := if ix0 L < 0 ∨ id = 0 then false else true
def takeL (L : List Sv) (th : Int) : List Sv := if ixT L th < 0 then L else L.eraseIdx (ixT L th).toNat
def takeI (L : List Sv) (th : Int) : Int := if ixT L th < 0 then 0 else (L.getD (ixT L th).toNat default).id
def takeB (L : List Sv) (th : Int) : Bool := if ixT L th < 0 then false else true
def parkL (L : List Sv) (th d : Int) : List Sv := if ixT L th < 0 then L ++ [⟨th, d, 0⟩] else L
def parkE (L : List Sv) (th : Int) : Int := if ixT L th < 0 then 0 else 10
theorem fidx_get {α : Type} [Inhabited α] {p : α → Bool} {L : List α} (h : ¬ fidx p L < 0) : ∃ k x, fidx p L = (k : Nat) ∧ L[k]? = some x ∧ L.getD k default = x ∧ (fidx p L).toNat = k := by
  rcases fidx_cases p L with ⟨h1, _⟩ | ⟨k, x, h1, h2, _, _⟩
  · omega
  · exact ⟨k, x, h1, h2, by rw [List.getD_eq_getElem?_getD, h2]; rfl, by omega⟩
theorem fillL_len (L : List Sv) (id : Int) : (fillL L id).length = L.length := by unfold fillL; split <;> simp
theorem takeL_len (L : List Sv) (th : Int) : (takeL L th).length ≤ L.length := by unfold takeL; split; exact Nat.le_refl _; exact List.length_eraseIdx_le ..
theorem parkL_len (L : List Sv) (th d : Int) : (parkL L th d).length ≤ L.length + 1 := by unfold parkL; split <;> simp

section
variable {B g : Nat} {A : Option Addr} {c : Nat} {L : List Sv} {w : World}
theorem slots_Fill_sum (id : Int) (h : Sk w B g A c L) :
    Calls Tryz.prog 31 #[.pointer (some ⟨g, 0, none⟩), .int .u64 id] w fun e w' => e = .returned (.tuple #[.int .i64 (fillT L id), .bool (fillB L id)]) ∧ SkTo w B g A L.length c (fillL L id) w' := by
  by_cases hx : ix0 L < 0 ∨ id = 0
  · rw [fillL, fillT, fillB, if_pos hx, if_pos hx, if_pos hx]
    refine (slots_Fill_no B g A c L id w h hx).mono ?_
    rintro e w' ⟨rfl, hb⟩
    exact ⟨rfl, A, c, h.of_below hb, Grew.of_below hb _, .inl rfl⟩
  · rw [fillL, fillT, fillB, if_neg hx, if_neg hx, if_neg hx]
    obtain ⟨k, x, h1, h2, h3, h4⟩ := fidx_get (p := fun x : Sv => x.id == 0) (L := L) (fun e => hx (.inl e))
    rw [show (ix0 L).toNat = k from h4, h3]
    refine (slots_Fill_yes B g A c L id k x w h h1 h2 (fun e => hx (.inr e))).mono ?_
    rintro e w' ⟨rfl, hs, hg⟩
    exact ⟨rfl, A, c, hs, hg.mono fun k _ hk => .inr hk, .inl (by cases A <;> rfl)⟩
theorem slots_Take_sum (th : Int) (h : Sk w B g A c L) :
    Calls Tryz.prog 32 #[.pointer (some ⟨g, 0, none⟩), .int .i64 th] w fun e w' => e = .returned (.tuple #[.int .u64 (takeI L th), .bool (takeB L th)]) ∧ SkTo w B g A L.length c (takeL L th) w' := by
  by_cases hx : ixT L th < 0
  · rw [takeL, takeI, takeB, if_pos hx, if_pos hx, if_pos hx]
    refine (slots_Take_no B g A c L th w h hx).mono ?_
    rintro e w' ⟨rfl, hb⟩
    exact ⟨rfl, A, c, h.of_below hb, Grew.of_below hb _, .inl rfl⟩
  · rw [takeL, takeI, takeB, if_neg hx, if_neg hx, if_neg hx]
    obtain ⟨k, x, h1, h2, h3, h4⟩ := fidx_get (p := fun x : Sv => x.th == th) (L := L) hx
    rw [show (ixT L th).toNat = k from h4, h3]
    refine (slots_Take_yes B g A c L th k x w h h1 h2).mono ?_
    rintro e w' ⟨rfl, hs, hg⟩
    exact ⟨rfl, A, c, hs, hg, .inl (by cases A <;> rfl)⟩
theorem slots_Park_sum (th d : Int) (h : Sk w B g A c L) (hB : B ≤ w.heap.size) (hl : L.length < 1000) :
    Calls Tryz.prog 30 #[.pointer (some ⟨g, 0, none⟩), .int .i64 th, .int .u64 d] w fun e w' => e = .returned (.int .i64 (parkE L th)) ∧ SkTo w B g A L.length c (parkL L th d) w' := by
  by_cases hx : ixT L th < 0
  · rw [parkL, parkE, if_pos hx, if_pos hx]
    refine (slots_Park_new B g A c L th d w h hB hl hx).mono ?_
    rintro e w' ⟨rfl, hs⟩
    exact ⟨rfl, hs⟩
  · rw [parkL, parkE, if_neg hx, if_neg hx]
    refine (slots_Park_had B g A c L th d w h (by unfold ixT at hx; omega)).mono ?_
    rintro e w' ⟨rfl, hb⟩
    exact ⟨rfl, A, c, h.of_below hb, Grew.of_below hb _, .inl rfl⟩
theorem Rr.rw {a : Option Addr} (h : Rr w B a c L) : Rw Sv.cells 3 w a c L := own_rw h
theorem Rr.of_below {w' : World} {a : Option Addr} (h : Rr w B a c L) (hb : RowKit.Below w.heap.size w w') : Rr w' B a c L := own_below h hb
theorem ref11_Fill_sum {a : Option Addr} (id : Int) (h : Rr w B a c L) (hB : B ≤ w.heap.size) (hl : L.length ≤ 1000) :
    Calls Tryz.prog 36 #[.slice a L.length c, .int .u64 id] w fun e w' => ∃ a' c', e = .returned (.tuple #[.slice a' (fillL L id).length c', .int .i64 (fillT L id), .bool (fillB L id)]) ∧ Rr w' B a' c' (fillL L id) ∧ RowKit.Below w.heap.size w w' := by
  by_cases h0 : id = 0
  · subst h0
    rw [fillL, fillT, fillB, if_pos (.inr rfl), if_pos (.inr rfl), if_pos (.inr rfl)]
    refine (ref11_Fill_none a c L w).mono ?_
    rintro e w' ⟨rfl, hb⟩
    exact ⟨a, c, rfl, h.of_below hb, hb⟩
  · refine (ref11_Fill a c L id w h.rw hl h0).mono ?_
    rintro e w' ⟨hb, ⟨hx, rfl⟩ | ⟨k, x, a', c', h1, h2, rfl, h3⟩⟩
    · rw [fillL, fillT, fillB, if_pos (.inl hx), if_pos (.inl hx), if_pos (.inl hx)]
      exact ⟨a, c, rfl, h.of_below hb, hb⟩
    · have hx : ¬ (ix0 L < 0 ∨ id = 0) := by
        rintro (e | e)
        · unfold ix0 at e; rw [h1] at e; omega
        · exact h0 e
      rw [fillL, fillT, fillB, if_neg hx, if_neg hx, if_neg hx]
      have h4 : (ix0 L).toNat = k := by unfold ix0; rw [h1]; rfl
      rw [h4, show L.getD k default = x by rw [List.getD_eq_getElem?_getD, h2]; rfl]
      exact ⟨a', c', rfl, own_mono h3 hB, hb⟩
theorem ref11_Take_sum {a : Option Addr} (th : Int) (h : Rr w B a c L) (hB : B ≤ w.heap.size) (hl : L.length ≤ 1000) :
    Calls Tryz.prog 37 #[.slice a L.length c, .int .i64 th] w fun e w' => ∃ a' c', e = .returned (.tuple #[.slice a' (takeL L th).length c', .int .u64 (takeI L th), .bool (takeB L th)]) ∧ Rr w' B a' c' (takeL L th) ∧ RowKit.Below w.heap.size w w' := by
  by_cases hx : ixT L th < 0
  · rw [takeL, takeI, takeB, if_pos hx, if_pos hx, if_pos hx]
    refine (ref11_Take_no a c L th w h.rw (by omega) hx).mono ?_
    rintro e w' ⟨rfl, hb⟩
    exact ⟨a, c, rfl, h.of_below hb, hb⟩
  · rw [takeL, takeI, takeB, if_neg hx, if_neg hx, if_neg hx]
    obtain ⟨k, x, h1, h2, h3, h4⟩ := fidx_get (p := fun x : Sv => x.th == th) (L := L) hx
    rw [show (ixT L th).toNat = k from h4, h3]
    have hk := (List.getElem?_eq_some_iff.1 h2).1
    obtain ⟨_, _, _, _, _, _, _, hcm, _⟩ := own_at h (by omega)
    refine (ref11_Take_yes a c L th k x w h.rw hl hcm h1 h2).mono ?_
    rintro e w' ⟨a', c', rfl, hs, hb⟩
    exact ⟨a', c', rfl, own_mono hs hB, hb⟩
theorem ref11_Park_sum {a : Option Addr} (th d : Int) (h : Rr w B a c L) (hB : B ≤ w.heap.size) (hl : L.length ≤ 1000) :
    Calls Tryz.prog 38 #[.slice a L.length c, .int .i64 th, .int .u64 d] w fun e w' => ∃ a' c', e = .returned (.tuple #[.slice a' (parkL L th d).length c', .int .i64 (parkE L th)]) ∧ Rr w' B a' c' (parkL L th d) ∧ RowKit.Below w.heap.size w w' := by
  by_cases hx : ixT L th < 0
  · rw [parkL, parkE, if_pos hx, if_pos hx]
    refine (ref11_Park_new a c L th d w h.rw hl hx).mono ?_
    rintro e w' ⟨a', c', rfl, hs, hb⟩
    exact ⟨a', c', rfl, own_mono hs hB, hb⟩
  · rw [parkL, parkE, if_neg hx, if_neg hx]
    refine (ref11_Park_had a c L th d w h.rw (by omega) (by unfold ixT at hx; omega)).mono ?_
    rintro e w' ⟨rfl, hb⟩
    exact ⟨a, c, rfl, h.of_below hb, hb⟩
end
end Go.Proofs.YtonfaojmphidpaaGreatDoor
