/- Chapter 10: what each act comes to, of the factory and of the document's. -/
import Derived.Test.YtonfaojmphidpaaGreatDoorFacT
namespace Go.Proofs.YtonfaojmphidpaaGreatDoor
open Go.RowKit Go.Maps
set_option linter.unusedVariables false
set_option linter.unusedSimpArgs false

def prB (ys : List Bool) (t : Int) (S : List Int) (id : Int) : Bool := if knownF t S id 6 = 0 then nx ys else false
def prY (ys : List Bool) (t : Int) (S : List Int) (id : Int) : List Bool := if knownF t S id 6 = 0 then ys.tail else ys
def clS (t : Int) (S : List Int) (id : Int) : List Int := if knownF t S id 10 = 0 then S ++ [id] else S
def opT (xs : List Bool) (t : Nat) : Nat := if nx xs then t + 1 else t
def opI (xs : List Bool) (t : Nat) : Int := if nx xs then (t : Int) + 1 else 0
theorem prY_len (ys : List Bool) (t : Int) (S : List Int) (id : Int) : (prY ys t S id).length ≤ ys.length := by unfold prY; split <;> simp
theorem clS_len (t : Int) (S : List Int) (id : Int) : (clS t S id).length ≤ S.length + 1 := by unfold clS; split <;> simp
theorem opT_le (xs : List Bool) (t : Nat) : opT xs t ≤ t + 1 := by unfold opT; split <;> omega

/-- A factory that has become this, blocks g and b alone being turned. -/
def FcTo (g b : Nat) (xs ys : List Bool) (t : Int) (S : List Int) (w w' : World) : Prop := ∃ a1 c1 a2 c2, Fc w' g b a1 c1 xs a2 c2 ys t S ∧ Grew w w' (fun k => k = g ∨ k = b)
section
variable {g b : Nat} {a1 : Option Addr} {c1 : Nat} {xs : List Bool} {a2 : Option Addr} {c2 : Nat} {ys : List Bool} {t : Nat} {S : List Int} {w : World}
theorem factory_Open_sum (h : Fc w g b a1 c1 xs a2 c2 ys t S) (ht : t < 900) :
    Calls Tryz.prog 16 #[.pointer (some ⟨g, 0, none⟩)] w fun e w' => e = .returned (.tuple #[.int .u64 (opI xs t), .bool (nx xs)]) ∧ FcTo g b xs.tail ys (opT xs t) S w w' := by
  refine (factory_Open g b a1 c1 xs a2 c2 ys t S w h (by omega)).mono ?_
  rintro e w' ⟨rfl, a1', c1', hF, hg⟩
  refine ⟨rfl, a1', c1', a2, c2, ?_, hg.mono fun k _ hk => .inl hk⟩
  have : (if nx xs then (t : Int) + 1 else (t : Int)) = ((opT xs t : Nat) : Int) := by unfold opT; split <;> simp
  rw [this] at hF; exact hF
theorem factory_Prove_sum (id : Int) (hid : In64 id) (h : Fc w g b a1 c1 xs a2 c2 ys t S) :
    Calls Tryz.prog 17 #[.pointer (some ⟨g, 0, none⟩), .int .u64 id] w fun e w' => e = .returned (.tuple #[.bool (prB ys t S id), .int .i64 (knownF t S id 6)]) ∧ FcTo g b xs (prY ys t S id) t S w w' := by
  by_cases hk : knownF t S id 6 = 0
  · rw [prB, prY, if_pos hk, if_pos hk, hk]
    refine (factory_Prove_yes g b a1 c1 xs a2 c2 ys t S id w h hid hk).mono ?_
    rintro e w' ⟨rfl, a2', c2', hF, hg⟩
    exact ⟨rfl, a1, c1, a2', c2', hF, hg.mono fun k _ hk => .inl hk⟩
  · rw [prB, prY, if_neg hk, if_neg hk]
    refine (factory_Prove_no g b a1 c1 xs a2 c2 ys t S id w h hid hk).mono ?_
    rintro e w' ⟨rfl, rfl⟩
    exact ⟨rfl, a1, c1, a2, c2, h, Grew.refl _ _⟩
theorem factory_Close_sum (id : Int) (hid : In64 id) (h : Fc w g b a1 c1 xs a2 c2 ys t S) (hS : S.length ≤ 1000) :
    Calls Tryz.prog 18 #[.pointer (some ⟨g, 0, none⟩), .int .u64 id] w fun e w' => e = .returned (.int .i64 (knownF t S id 10)) ∧ FcTo g b xs ys t (clS t S id) w w' := by
  by_cases hk : knownF t S id 10 = 0
  · rw [clS, if_pos hk, hk]
    refine (factory_Close_yes g b a1 c1 xs a2 c2 ys t S id w h hid hk (by omega)).mono ?_
    rintro e w' ⟨rfl, hF, hg⟩
    exact ⟨rfl, a1, c1, a2, c2, hF, Grew.of_grown hg fun k hk => .inr (Option.some.inj hk).symm⟩
  · rw [clS, if_neg hk]
    refine (factory_Close_no g b a1 c1 xs a2 c2 ys t S id w h hid hk).mono ?_
    rintro e w' ⟨rfl, rfl⟩
    exact ⟨rfl, a1, c1, a2, c2, h, Grew.refl _ _⟩
end
section
variable {v : Value} {xs ys : List Bool} {t : Nat} {S : List Int} {w : World}
theorem ref10_Open_sum (h : Rz w v xs ys t S) (hl : xs.length ≤ 1000) (ht : t ≤ 900) (hS : ∀ k ∈ S, k ≤ (t : Int)) :
    Calls Tryz.prog 26 #[v] w fun e w' => ∃ v', e = .returned (.tuple #[v', .int .u64 (opI xs t), .bool (nx xs)]) ∧ Rz w' v' xs.tail ys (opT xs t) S ∧ RowKit.Below w.heap.size w w' := by
  unfold opI opT
  cases hx : nx xs with
  | true => exact ref10_Open_yes v xs ys t S w h hl hx ht hS
  | false => exact ref10_Open_no v xs ys t S w h hl hx
theorem ref10_Prove_sum (id : Int) (hid : In64 id) (h : Rz w v xs ys t S) (hl : ys.length ≤ 1000) (ht : t ≤ 900) :
    Calls Tryz.prog 24 #[v, .int .u64 id] w fun e w' => ∃ v', e = .returned (.tuple #[v', .bool (prB ys t S id), .int .i64 (knownF t S id 6)]) ∧ Rz w' v' xs (prY ys t S id) t S ∧ RowKit.Below w.heap.size w w' := by
  by_cases hk : knownF t S id 6 = 0
  · rw [prB, prY, if_pos hk, if_pos hk, hk]
    exact ref10_Prove_yes v xs ys t S id w h ht hid hl hk
  · rw [prB, prY, if_neg hk, if_neg hk]
    exact ref10_Prove_no v xs ys t S id w h ht hid hk
theorem ref10_Close_sum (id : Int) (hid : In64 id) (h : Rz w v xs ys t S) (ht : t ≤ 900) :
    Calls Tryz.prog 25 #[v, .int .u64 id] w fun e w' => ∃ v', e = .returned (.tuple #[v', .int .i64 (knownF t S id 10)]) ∧ Rz w' v' xs ys t (clS t S id) ∧ RowKit.Below w.heap.size w w' := by
  by_cases hk : knownF t S id 10 = 0
  · rw [clS, if_pos hk, hk]
    exact ref10_Close_yes v xs ys t S id w h ht hid hk
  · rw [clS, if_neg hk]
    exact ref10_Close_no v xs ys t S id w h ht hid hk
end

/-- The document's factory in a box. -/
def Dz (w : World) (bd : Nat) (xs ys : List Bool) (t : Nat) (S : List Int) : Prop := ∃ p1 p2 p3, Blk w bd 43 #[p1, p2, p3] ∧ Rz w (.agg #[p1, p2, p3]) xs ys t S
theorem Rz.grew {w w' : World} {T : Nat → Prop} {v : Value} {xs ys : List Bool} {t : Nat} {S : List Int} (h : Rz w v xs ys t S) (hg : Grew w w' T) (hT : ∀ k, T k → (∃ t cs, Blk w k t cs ∧ ∀ v ∈ cs, ∀ y, v ≠ .bool y) ∨ ∀ off, w.cell? ⟨k, off, none⟩ = none) : Rz w' v xs ys t S := by
  obtain ⟨a1, c1, a2, c2, a3, c3, sh, rfl, h1, h2, h3, h4⟩ := h
  have key : ∀ {a : Option Addr} {c : Nat} {zs : List Bool}, Bs w a c zs → Bs w' a c zs := fun {a c zs} hb => hb.grew hg (fun q hq h0 hs => by
    rcases hT _ hs with ⟨t, cs, hk, hn⟩ | hn
    · exact hb.apart hk hn h0 q hq rfl
    · obtain ⟨b, off, ha, _, hc⟩ := hb.2.2.2 h0
      rw [ha] at hq; cases hq
      cases zs with
      | nil => simp at h0
      | cons z zs =>
        have h1 := hc 0 (.bool z) rfl
        rw [Nat.add_zero, hn off] at h1; cases h1)
  exact ⟨a1, c1, a2, c2, a3, c3, sh, rfl, key h1, key h2, key h3, h4⟩
end Go.Proofs.YtonfaojmphidpaaGreatDoor
