/- Chapter 12: the document's answer (ref12). -/
import Derived.Test.YtonfaojmphidpaaGreatDoorLocP
import Derived.OwnWalk
import Derived.BigQuiet
import Derived.Deep.QuietTactic
namespace Go.Proofs.YtonfaojmphidpaaGreatDoor
open Go.RowKit
set_option linter.unusedVariables false
set_option linter.unusedSimpArgs false

theorem Tryz.infoSU : (Tryz.prog.info? 39).map (fun i => (i.zero, i.size, i.bytes)) = some (some (.slice none 0 0), 1, 24) := by kernel_rfl
/-- The document's eight lists, in a row of their own, B or above. -/
structure Rl (w : World) (B : Nat) (ad : Option Addr) (cd : Nat) (R : List Ln) : Prop where
  row : w.ownsRow B 39 1 (.slice ad 8 cd) 8 (R.map Ln.val)
  n8 : R.length = 8
  sl : ∀ l ∈ R, Sl .u64 w l.a l.c l.xs
  len : ∀ l ∈ R, l.xs.length ≤ 4
theorem Rl.of_below {w w' : World} {B : Nat} {ad : Option Addr} {cd : Nat} {R : List Ln} (h : Rl w B ad cd R) (hb : RowKit.Below w.heap.size w w') : Rl w' B ad cd R := ⟨own_below h.row hb, h.n8, fun l hl => (h.sl l hl).below hb, h.len⟩
theorem vals_one (R : List Ln) : ∀ u ∈ R.map Ln.val, u.oneCell' = true := by
  intro u hu
  obtain ⟨l, _, rfl⟩ := List.mem_map.1 hu
  rfl
/-- Where the eight lists lie. -/
theorem Rl.at_ {w : World} {B : Nat} {ad : Option Addr} {cd : Nat} {R : List Ln} (h : Rl w B ad cd R) : ∃ b, ad = some ⟨b, 0, none⟩ ∧ b < w.heap.size ∧ 8 ≤ cd ∧ ∀ k l, R[k]? = some l → w.cell? ⟨b, k, none⟩ = some (.slice l.a l.xs.length l.c) := by
  obtain ⟨b, cur, rfl, _, hk, _, hc, _, hcu⟩ := own_at h.row (by decide)
  refine ⟨b, rfl, hk.lt, hc, fun k l hl => ?_⟩
  have hkl := (List.getElem?_eq_some_iff.1 hl).1
  rw [hk.cell, hcu k (by have := h.n8; omega), List.getElem?_map, hl]; rfl

theorem own_setL {w : World} {base n c : Nat} {e : TypeId} {size : Nat} {b : Nat} {xs : List Value} (h : w.ownsRow base e size (.slice (some ⟨b, 0, none⟩) n c) n xs) (i : Nat) (hi : i < n * size) (u : Value) : (w.setCell ⟨b, i, none⟩ u).ownsRow base e size (.slice (some ⟨b, 0, none⟩) n c) n (xs.set i u) := by
  obtain ⟨hl, hv⟩ := h
  rcases hv with ⟨hv, _⟩ | ⟨g, cap, cur, hv, hb, hg, hn, hm, hs, ht⟩
  · cases hv
  · simp only [Value.slice.injEq, Option.some.injEq, Addr.mk.injEq, true_and, and_true] at hv
    obtain ⟨rfl, rfl⟩ := hv
    refine ⟨by rw [List.length_set]; exact hl, .inr ⟨b, c, cur.setIfInBounds i u, rfl, hb, (show Blk w b e cur from hg).put i u, hn, hm, by simpa using hs, ?_⟩⟩
    rw [← ht, Array.toList_setIfInBounds, List.take_set]

set_option maxHeartbeats 1000000 in
theorem ref12_New (w : World) :
    Calls Tryz.prog 46 #[] w fun e w' => ∃ ad cd, e = .returned (.slice ad 8 cd) ∧ Rl w' w.heap.size ad cd (List.replicate 8 ⟨none, 0, []⟩) ∧ RowKit.Below w.heap.size w w' := by
  have hmk : ∀ u : World, (Instr.makeSlice 87 (.int .i64 8) (.int .i64 8)).run Tryz.prog u = .ok (.slice (some ⟨u.heap.size, 0, none⟩) 8 8) (u.alloc (.cells #[.slice none 0 0, .slice none 0 0, .slice none 0 0, .slice none 0 0, .slice none 0 0, .slice none 0 0, .slice none 0 0, .slice none 0 0] 39)) := fun _ => by kernel_rfl
  go_enter Tryz.func46, Tryz.ntmps46
  go_wp2
  go_ret
  refine ⟨some ⟨w.heap.size, 0, none⟩, 8, rfl, ⟨⟨rfl, .inr ⟨w.heap.size, 8, _, rfl, Nat.le_refl _, Blk.new w 39 _, Nat.le_refl _, by decide, rfl, rfl⟩⟩, rfl, fun l hl => ?_, fun l hl => ?_⟩, (Below.refl _ _).alloc (Nat.le_refl _) _⟩
  · obtain rfl := List.eq_of_mem_replicate hl
    exact Rd.nil_ 1 _
  · obtain rfl := List.eq_of_mem_replicate hl
    exact Nat.zero_le _

set_option maxHeartbeats 1000000 in
theorem ref12_with (a : Option Addr) (c : Nat) (R : List Ln) (k : Nat) (m : Ln) (B : Nat) (w : World) (h : Rl w B a c R) (hk : k < 8) (hm : Sl .u64 w m.a m.c m.xs) (hml : m.xs.length ≤ 4) :
    Calls Tryz.prog 91 #[.slice a 8 c, .int .i64 k, .slice m.a m.xs.length m.c] w fun e w' => ∃ a' c', e = .returned (.slice a' 8 c') ∧ Rl w' w.heap.size a' c' (R.set k m) ∧ RowKit.Below w.heap.size w w' := by
  have HR := Lib.hid (own_rd h.row)
  have HH := Lib.hid h; clear h
  have HM := Lib.hid hm; clear hm
  have HN1 := Lib.hid (World.ownsRow_nil w w.heap.size 39 1)
  have hk8 : (k : Int) < 8 := by omega
  obtain ⟨l, hl⟩ : ∃ l, R[k]? = some l := ⟨_, List.getElem?_eq_getElem (by rw [HH.out.n8]; exact hk)⟩
  have HL := Lib.hid hl; clear hl
  go_enter Tryz.func91, Tryz.ntmps91
  go_wp2_with (at_builtin; refine app_own _ rfl _ _ 87 rfl w.heap.size 39 (.slice none 0 0) 1 24 Tryz.underlying87 Tryz.infoSU rfl (by decide) (.slice none 0 0) 0 [] rfl HN1.out a 8 c _ rfl HR.out (vals_one R) (by omega) (by omega) (Nat.le_refl _) ?_; intro A2 c2 w2 h2 h3 h4; rw [Nat.zero_add, List.nil_append] at h2; have hs2 := h3.size; obtain ⟨b2, cur2, rfl, hb2B, hk2, -, -, -, hcu2⟩ := own_at h2 (by decide); have p0 := hk2.frozen k; have p1 := hk2.lt; have q0 : w2.cell? ⟨b2, k, none⟩ = some l.val := (by rw [hk2.cell, hcu2 k (by omega), List.getElem?_map, HL.out]; rfl); have H2 := Lib.hid h2; clear h2; have H3 := Lib.hid h3; clear h3 h4 hk2 hcu2)
  go_ret
  have hb2 := (RowKit.Below.refl w.heap.size w).grown H3.out (Nat.le_refl _) (fun z hz => by simp [Value.ownBlock] at hz)
  have hb3 := hb2.setCell (p := ⟨b2, k, none⟩) hb2B (.slice m.a m.xs.length m.c)
  have hset := own_setL H2.out k (by omega) (.slice m.a m.xs.length m.c)
  refine ⟨some ⟨b2, 0, none⟩, c2, rfl, ⟨?_, by rw [List.length_set]; exact HH.out.n8, fun l' hl' => ?_, fun l' hl' => ?_⟩, hb3⟩
  · rw [List.map_set]; exact hset
  · rcases List.mem_or_eq_of_mem_set hl' with hl' | rfl
    · exact (HH.out.sl l' hl').below hb3
    · exact HM.out.below hb3
  · rcases List.mem_or_eq_of_mem_set hl' with hl' | rfl
    · exact HH.out.len l' hl'
    · exact hml
end Go.Proofs.YtonfaojmphidpaaGreatDoor
