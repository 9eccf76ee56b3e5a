/- Chapter 12: what Put and Take come to at any thread, in plain lists. -/
import Derived.Test.YtonfaojmphidpaaGreatDoorRef12T
namespace Go.Proofs.YtonfaojmphidpaaGreatDoor
open Go.RowKit
set_option linter.unusedVariables false
set_option linter.unusedSimpArgs false

/-- The lists' numbers. -/
def xsOf (F : List Ln) : List (List Int) := F.map Ln.xs
def putX (X : List (List Int)) (th : Int) (ys : List Int) : List (List Int) := if 0 ≤ th ∧ th < 8 then X.set th.toNat (last4 (X.getD th.toNat [] ++ ys)) else X
def putE (th : Int) : Int := if 0 ≤ th ∧ th < 8 then 0 else 2
def takeX (X : List (List Int)) (th : Int) : List (List Int) := if 0 ≤ th ∧ th < 8 then X.set th.toNat (X.getD th.toNat []).dropLast else X
def takeV (X : List (List Int)) (th : Int) : Int := if 0 ≤ th ∧ th < 8 then (X.getD th.toNat []).getLast?.getD 0 else 0
def takeK (X : List (List Int)) (th : Int) : Bool := if 0 ≤ th ∧ th < 8 then (X.getD th.toNat []).getLast?.isSome else false

theorem last4_short {l : List Int} (h : l.length ≤ 4) : last4 l = l := by unfold last4; rw [show l.length - 4 = 0 by omega, List.drop_zero]
theorem last4_snoc (l : List Int) (y : Int) : last4 (last4 l ++ [y]) = last4 (l ++ [y]) := by
  by_cases h : l.length ≤ 4
  · rw [last4_short h]
  · have e1 : (last4 l ++ [y]).length = 5 := by rw [List.length_append, last4_len, List.length_singleton]; omega
    have e2 : last4 (last4 l ++ [y]) = (last4 l ++ [y]).drop 1 := by unfold last4 at e1 ⊢; rw [e1]
    have e3 : last4 l ++ [y] = (l ++ [y]).drop (l.length - 4) := by unfold last4; rw [List.drop_append_of_le_length (by omega)]
    have e4 : last4 (l ++ [y]) = (l ++ [y]).drop (l.length - 4 + 1) := by unfold last4; rw [List.length_append, List.length_singleton, show l.length + 1 - 4 = l.length - 4 + 1 by omega]
    rw [e2, e3, e4, List.drop_drop]
theorem set_getD (X : List (List Int)) (k : Nat) : X.set k (X.getD k []) = X := by
  by_cases h : k < X.length
  · rw [List.getD_eq_getElem?_getD, List.getElem?_eq_getElem h]; simp
  · rw [List.set_eq_of_length_le (by omega)]
theorem getD_len {X : List (List Int)} (h : ∀ x ∈ X, x.length ≤ 4) (k : Nat) : (X.getD k []).length ≤ 4 := by
  rw [List.getD_eq_getElem?_getD]
  by_cases hk : k < X.length
  · rw [List.getElem?_eq_getElem hk]; exact h _ (List.getElem_mem hk)
  · rw [List.getElem?_eq_none (by omega)]; exact Nat.zero_le _
theorem putX_nil {X : List (List Int)} (h : ∀ x ∈ X, x.length ≤ 4) (th : Int) : putX X th [] = X := by
  unfold putX
  split
  · rw [List.append_nil, last4_short (getD_len h _), set_getD]
  · rfl
theorem putX_snoc (X : List (List Int)) (hX : X.length = 8) (th : Int) (ys : List Int) (y : Int) : putX (putX X th ys) th [y] = putX X th (ys ++ [y]) := by
  unfold putX
  by_cases h : 0 ≤ th ∧ th < 8
  · rw [if_pos h, if_pos h, if_pos h, List.set_set]
    have e : (X.set th.toNat (last4 (X.getD th.toNat [] ++ ys))).getD th.toNat [] = last4 (X.getD th.toNat [] ++ ys) := by
      rw [List.getD_eq_getElem?_getD, List.getElem?_set_self (by omega)]; rfl
    rw [e, last4_snoc, List.append_assoc]
  · rw [if_neg h, if_neg h, if_neg h]
theorem putX_length (X : List (List Int)) (th : Int) (ys : List Int) : (putX X th ys).length = X.length := by
  unfold putX; split
  · exact List.length_set
  · rfl
theorem xsOf_getD {F : List Ln} {k : Nat} {l : Ln} (h : F[k]? = some l) : (xsOf F).getD k [] = l.xs := by
  rw [List.getD_eq_getElem?_getD, xsOf, List.getElem?_map, h]; rfl
theorem xsOf_set (F : List Ln) (k : Nat) (l : Ln) : xsOf (F.set k l) = (xsOf F).set k l.xs := by unfold xsOf; rw [List.map_set]
theorem Ls.lenX {w : World} {g : Nat} {F : List Ln} (h : Ls w g F) : ∀ x ∈ xsOf F, x.length ≤ 4 := by
  intro x hx
  obtain ⟨l, hl, rfl⟩ := List.mem_map.1 hx
  exact h.len l hl
theorem Rl.lenX {w : World} {B : Nat} {a : Option Addr} {c : Nat} {R : List Ln} (h : Rl w B a c R) : ∀ x ∈ xsOf R, x.length ≤ 4 := by
  intro x hx
  obtain ⟨l, hl, rfl⟩ := List.mem_map.1 hx
  exact h.len l hl
theorem Rl.get {w : World} {B : Nat} {a : Option Addr} {c : Nat} {R : List Ln} (h : Rl w B a c R) {k : Nat} (hk : k < 8) : ∃ l, R[k]? = some l := ⟨_, List.getElem?_eq_getElem (by rw [h.n8]; exact hk)⟩
theorem Rl.mono {w : World} {B B' : Nat} {a : Option Addr} {c : Nat} {R : List Ln} (h : Rl w B' a c R) (hB : B ≤ B') : Rl w B a c R := ⟨own_mono h.row hB, h.n8, h.sl, h.len⟩

/-- The lists have become X, where they were at block g. -/
def LsX (w : World) (g : Nat) (X : List (List Int)) (w' : World) : Prop := ∃ F, Ls w' g F ∧ xsOf F = X ∧ Grew w w' (· = g)
theorem local_Put_sum (g : Nat) (F : List Ln) (th : Int) (a : Option Addr) (c : Nat) (ys : List Int) (w : World) (h : Ls w g F) (hy : Sl .u64 w a c ys) (hyl : ys.length ≤ 1000) :
    Calls Tryz.prog 48 #[.pointer (some ⟨g, 0, none⟩), .int .i64 th, .slice a ys.length c] w fun e w' => e = .returned (.int .i64 (putE th)) ∧ LsX w g (putX (xsOf F) th ys) w' := by
  by_cases ht : 0 ≤ th ∧ th < 8
  · obtain ⟨k, rfl⟩ : ∃ k : Nat, th = k := ⟨th.toNat, by omega⟩
    obtain ⟨l, hl⟩ := h.get (k := k) (by omega)
    refine (local_Put g F k l hl a c ys w h hy hyl).mono ?_
    rintro e w' ⟨rfl, m, hm, h1, h2, -⟩
    refine ⟨?_, F.set k m, h1, ?_, h2⟩
    · unfold putE; rw [if_pos ht]
    · unfold putX; rw [if_pos ht, xsOf_set, hm, Int.toNat_natCast, xsOf_getD hl]
  · refine (local_Put_no g th (by omega) _ w).mono ?_
    rintro e w' ⟨rfl, rfl⟩
    refine ⟨?_, F, h, ?_, Grew.of_below (Below.refl _ _) _⟩
    · unfold putE; rw [if_neg ht]
    · unfold putX; rw [if_neg ht]
theorem local_Take_sum (g : Nat) (F : List Ln) (th : Int) (w : World) (h : Ls w g F) :
    Calls Tryz.prog 49 #[.pointer (some ⟨g, 0, none⟩), .int .i64 th] w fun e w' => e = .returned (.tuple #[.int .u64 (takeV (xsOf F) th), .bool (takeK (xsOf F) th)]) ∧ LsX w g (takeX (xsOf F) th) w' := by
  by_cases ht : 0 ≤ th ∧ th < 8
  · obtain ⟨k, rfl⟩ : ∃ k : Nat, th = k := ⟨th.toNat, by omega⟩
    obtain ⟨l, hl⟩ := h.get (k := k) (by omega)
    rcases hx : l.xs.getLast? with _ | x
    · have he : l.xs = [] := List.getLast?_eq_none_iff.1 hx
      refine (local_Take_empty g F k l hl w h he).mono ?_
      rintro e w' ⟨rfl, rfl⟩
      refine ⟨?_, F, h, ?_, Grew.of_below (Below.refl _ _) _⟩
      · unfold takeV takeK; rw [if_pos ht, if_pos ht, Int.toNat_natCast, xsOf_getD hl, hx]; rfl
      · unfold takeX; rw [if_pos ht, Int.toNat_natCast, xsOf_getD hl, he, List.dropLast_nil, ← he, ← xsOf_getD hl, set_getD]
    · refine (local_Take g F k l x hl w h hx).mono ?_
      rintro e w' ⟨rfl, h1, h2⟩
      refine ⟨?_, _, h1, ?_, h2⟩
      · unfold takeV takeK; rw [if_pos ht, if_pos ht, Int.toNat_natCast, xsOf_getD hl, hx]; rfl
      · unfold takeX; rw [if_pos ht, xsOf_set, Int.toNat_natCast, xsOf_getD hl]
  · refine (local_Take_no g th (by omega) w).mono ?_
    rintro e w' ⟨rfl, rfl⟩
    refine ⟨?_, F, h, ?_, Grew.of_below (Below.refl _ _) _⟩
    · unfold takeV takeK; rw [if_neg ht, if_neg ht]
    · unfold takeX; rw [if_neg ht]

/-- The document's lists have become X. -/
def RlX (w : World) (B : Nat) (a : Option Addr) (c : Nat) (X : List (List Int)) (w' : World) : Prop := (∃ R, Rl w' B a c R ∧ xsOf R = X) ∧ RowKit.Below w.heap.size w w'
theorem ref12_Put_sum (a : Option Addr) (c : Nat) (R : List Ln) (th id : Int) (B : Nat) (w : World) (h : Rl w B a c R) (hB : B ≤ w.heap.size) :
    Calls Tryz.prog 51 #[.slice a 8 c, .int .i64 th, .int .u64 id] w fun e w' => ∃ a' c', e = .returned (.tuple #[.slice a' 8 c', .int .i64 (putE th)]) ∧ RlX w B a' c' (putX (xsOf R) th [id]) w' := by
  by_cases ht : 0 ≤ th ∧ th < 8
  · obtain ⟨k, rfl⟩ : ∃ k : Nat, th = k := ⟨th.toNat, by omega⟩
    obtain ⟨l, hl⟩ := h.get (k := k) (by omega)
    refine (ref12_Put a c R k l id B w h hl).mono ?_
    rintro e w' ⟨a', c', m, rfl, hm, h1, h2⟩
    refine ⟨a', c', ?_, ⟨R.set k m, h1.mono hB, ?_⟩, h2⟩
    · unfold putE; rw [if_pos ht]
    · unfold putX; rw [if_pos ht, xsOf_set, hm, Int.toNat_natCast, xsOf_getD hl]
  · refine (ref12_Put_no _ th id w (by omega)).mono ?_
    rintro e w' ⟨rfl, rfl⟩
    refine ⟨a, c, ?_, ⟨R, h, ?_⟩, Below.refl _ _⟩
    · unfold putE; rw [if_neg ht]
    · unfold putX; rw [if_neg ht]
theorem ref12_Take_sum (a : Option Addr) (c : Nat) (R : List Ln) (th : Int) (B : Nat) (w : World) (h : Rl w B a c R) (hB : B ≤ w.heap.size) :
    Calls Tryz.prog 50 #[.slice a 8 c, .int .i64 th] w fun e w' => ∃ a' c', e = .returned (.tuple #[.slice a' 8 c', .int .u64 (takeV (xsOf R) th), .bool (takeK (xsOf R) th)]) ∧ RlX w B a' c' (takeX (xsOf R) th) w' := by
  by_cases ht : 0 ≤ th ∧ th < 8
  · obtain ⟨k, rfl⟩ : ∃ k : Nat, th = k := ⟨th.toNat, by omega⟩
    obtain ⟨l, hl⟩ := h.get (k := k) (by omega)
    rcases hx : l.xs.getLast? with _ | x
    · have he : l.xs = [] := List.getLast?_eq_none_iff.1 hx
      refine (ref12_Take_empty a c R k l B w h hl he).mono ?_
      rintro e w' ⟨rfl, rfl⟩
      refine ⟨a, c, ?_, ⟨R, h, ?_⟩, Below.refl _ _⟩
      · unfold takeV takeK; rw [if_pos ht, if_pos ht, Int.toNat_natCast, xsOf_getD hl, hx]; rfl
      · unfold takeX; rw [if_pos ht, Int.toNat_natCast, xsOf_getD hl, he, List.dropLast_nil, ← he, ← xsOf_getD hl, set_getD]
    · refine (ref12_Take a c R k l x B w h hl hx).mono ?_
      rintro e w' ⟨a', c', rfl, h1, h2⟩
      refine ⟨a', c', ?_, ⟨_, h1.mono hB, ?_⟩, h2⟩
      · unfold takeV takeK; rw [if_pos ht, if_pos ht, Int.toNat_natCast, xsOf_getD hl, hx]; rfl
      · unfold takeX; rw [if_pos ht, xsOf_set, Int.toNat_natCast, xsOf_getD hl]
  · refine (ref12_Take_no _ th w (by omega)).mono ?_
    rintro e w' ⟨rfl, rfl⟩
    refine ⟨a, c, ?_, ⟨R, h, ?_⟩, Below.refl _ _⟩
    · unfold takeV takeK; rw [if_neg ht, if_neg ht]
    · unfold takeX; rw [if_neg ht]

/-- The document's lists lie apart from a turned block of lists. -/
theorem Rl.keepLs {w w' : World} {B g : Nat} {a : Option Addr} {c : Nat} {R F : List Ln} (h : Rl w B a c R) (hF : Ls w g F) (hg : Grew w w' (· = g)) : Rl w' B a c R :=
  ⟨own_grew h.row hg (fun k hk e => own_apart h.row hF.blk (by decide) (by rw [hk, e])), h.n8, fun l hl => (h.sl l hl).grew hg (fun q hq h0 e => (h.sl l hl).apart2 hF.blk Ls.noint h0 q hq e), h.len⟩
theorem Ls.keepLs {w w' : World} {g g2 : Nat} {F G : List Ln} (h : Ls w g2 G) (hF : Ls w g F) (hne : g2 ≠ g) (hg : Grew w w' (· = g)) : Ls w' g2 G :=
  ⟨h.blk.grew hg hne, h.n8, fun l hl => (h.sl l hl).grew hg (fun q hq h0 e => (h.sl l hl).apart2 hF.blk Ls.noint h0 q hq e), h.len⟩
theorem Blk.keepLs {w w' : World} {g : Nat} {F : List Ln} (hF : Ls w g F) {b : Nat} {t : TypeId} {cs : Array Value} (hb : Blk w b t cs) (h1 : 146 ≠ t) (hg : Grew w w' (· = g)) : Blk w' b t cs :=
  hb.grew hg (fun e => hF.blk.ne_type hb h1 e.symm)
theorem Sl.keepLs {w w' : World} {g : Nat} {F : List Ln} (hF : Ls w g F) {a : Option Addr} {c : Nat} {xs : List Int} (h : Sl .u64 w a c xs) (hg : Grew w w' (· = g)) : Sl .u64 w' a c xs :=
  h.grew hg (fun q hq h0 e => h.apart2 hF.blk Ls.noint h0 q hq e)
theorem xsOf_of_getD {F G : List Ln} (h1 : F.length = 8) (h2 : G.length = 8) (h : ∀ j, j < 8 → (G.getD j default).xs = (F.getD j default).xs) : xsOf G = xsOf F := by
  apply List.ext_getElem?
  intro j
  unfold xsOf
  rw [List.getElem?_map, List.getElem?_map]
  by_cases hj : j < 8
  · have := h j hj
    rw [List.getD_eq_getElem?_getD, List.getD_eq_getElem?_getD, List.getElem?_eq_getElem (by omega), List.getElem?_eq_getElem (by omega)] at this
    rw [List.getElem?_eq_getElem (by omega), List.getElem?_eq_getElem (by omega)]
    simpa using this
  · rw [List.getElem?_eq_none (by omega), List.getElem?_eq_none (by omega)]
theorem lensN_xs (F : List Ln) : lensN F = ((xsOf F).map List.length).sum := by unfold lensN xsOf; rw [List.map_map]; rfl
end Go.Proofs.YtonfaojmphidpaaGreatDoor
