/- Chapter 12: the document's Put. -/
import Derived.Test.YtonfaojmphidpaaGreatDoorRef12
namespace Go.Proofs.YtonfaojmphidpaaGreatDoor
open Go.RowKit
set_option linter.unusedVariables false
set_option linter.unusedSimpArgs false

set_option maxHeartbeats 1000000 in
theorem ref12_Put_no (v : Value) (th id : Int) (w : World) (ht : th < 0 ∨ 8 ≤ th) :
    Calls Tryz.prog 51 #[v, .int .i64 th, .int .u64 id] w fun e w' => e = .returned (.tuple #[v, .int .i64 2]) ∧ w = w' := by
  by_cases h0 : th < 0
  · clear ht
    go_enter Tryz.func51, Tryz.ntmps51
    go_wp2
    go_ret2
    exact ⟨rfl, rfl⟩
  · have h8 : 7 < th := by omega
    clear ht
    go_enter Tryz.func51, Tryz.ntmps51
    go_wp2
    go_ret2
    exact ⟨rfl, rfl⟩

/-- What Put comes to. -/
def Put12 (R : List Ln) (k : Nat) (xs : List Int) (w : World) (e : Ending) (w' : World) : Prop := ∃ a' c' m, e = .returned (.tuple #[.slice a' 8 c', .int .i64 0]) ∧ Ln.xs m = xs ∧ Rl w' w.heap.size a' c' (R.set k m) ∧ RowKit.Below w.heap.size w w'
set_option maxRecDepth 100000 in
set_option maxHeartbeats 4000000 in
theorem ref12_Put (a : Option Addr) (c : Nat) (R : List Ln) (k : Nat) (l : Ln) (id : Int) (B : Nat) (w : World) (h : Rl w B a c R) (hl : R[k]? = some l) :
    Calls Tryz.prog 51 #[.slice a 8 c, .int .i64 k, .int .u64 id] w (Put12 R k (last4 (l.xs ++ [id])) w) := by
  have hk : k < 8 := by have := (List.getElem?_eq_some_iff.1 hl).1; rw [h.n8] at this; exact this
  have hmem := List.mem_of_getElem? hl
  have hll := h.len l hmem
  obtain ⟨b0, rfl, hb0, hc8, hat⟩ := h.at_
  have hcell := hat k l hl
  have HSL := Lib.hid (show Rd 1 w l.a l.xs.length l.c (nums .u64 l.xs) from h.sl l hmem)
  have HH := Lib.hid h; clear h hat hmem
  have HL := Lib.hid hl; clear hl
  have HN1 := Lib.hid (World.ownsRow_nil w w.heap.size 28 1)
  have h0 : ¬ (k : Int) < 0 := by omega
  have h7 : ¬ (7 : Int) < (k : Int) := by omega
  have hk8 : (k : Int) < 8 := by omega
  obtain ⟨la, lc, xs⟩ := l
  dsimp only at *
  go_enter Tryz.func51, Tryz.ntmps51
  by_cases h4 : xs.length = 4
  · have hh4 : (4 : Int) < (xs.length : Int) + 1 := by omega
    have H4 := Lib.hid h4; clear h4
    go_wp2_with (first
      | (at_builtin; refine app_own _ rfl _ _ 39 rfl w.heap.size 28 (.int .u64 0) 1 8 Tryz.underlying39 Tryz.infoU rfl (by decide) (.slice none 0 0) 0 [] rfl HN1.out la xs.length lc _ rfl HSL.out (nums_one _ _) (by omega) (by omega) (Nat.le_refl _) ?_; intro A2 c2 w2 h2 h3 h5; rw [Nat.zero_add, List.nil_append] at h2; have hs2 := h3.size; have H2 := Lib.hid h2; clear h2; have H3 := Lib.hid h3; clear h3 h5)
      | (at_builtin; refine app_one w2 rfl (.tmp 22) (.tmp 24) 39 rfl w.heap.size 28 (.int .u64 0) 1 8 Tryz.underlying39 Tryz.infoU rfl (by decide) (.slice A2 xs.length c2) xs.length _ rfl H2.out [.int .u64 id] rfl rfl (by simp [Value.oneCell']) (by omega) (by omega) hs2 ?_; intro A3 c3 w3 h6 h7 h8; obtain ⟨b3, cur3, rfl, hb3B, hk3, -, hc3, hcm3, -⟩ := own_at h6 (by omega); have hc31 : ¬ c3 = 1 := (by omega); have hc32 : xs.length + 1 ≤ c3 := hc3; have H6 := Lib.hid h6; clear h6; have H7 := Lib.hid h7; clear h7 h8 hk3))
    have hb2 := (RowKit.Below.refl w.heap.size w).grown H3.out (Nat.le_refl _) (fun z hz => by simp [Value.ownBlock] at hz)
    have hb3 := hb2.grown H7.out hs2 (fun z hz => own_base H2.out z hz)
    have e1 : nums .u64 xs ++ [.int .u64 id] = nums .u64 (xs ++ [id]) := by simp [nums]
    have e2 : (xs ++ [id]).length = xs.length + 1 := by simp
    have hsl : Sl .u64 w3 (some ⟨b3, 0, none⟩) c3 (xs ++ [id]) := by
      have := own_rd H6.out
      rw [e1] at this
      show Rd 1 w3 _ (xs ++ [id]).length c3 _
      rw [e2]; exact this
    have hdr := hsl.dropN 1 (by omega)
    have hl4 : last4 (xs ++ [id]) = (xs ++ [id]).drop 1 := by unfold last4; rw [e2, H4.out]
    have hdl : ((xs ++ [id]).drop 1).length = xs.length := by simp
    have HL4 := Lib.hid hl4
    have hw := ref12_with (some ⟨b0, 0, none⟩) c R k ⟨some ⟨b3, 0 + 1, none⟩, c3 - 1, (xs ++ [id]).drop 1⟩ B w3 (HH.out.of_below hb3) hk hdr (by dsimp only; omega)
    dsimp only at hw
    rw [hdl, Nat.zero_add] at hw
    have HW := Lib.hid hw; clear hw hdr hsl
    have HB3 := Lib.hid hb3; clear hb3 hb2 e1 e2 hdl hl4
    generalize (xs ++ [id]).drop 1 = zs at *
    refine HW.out.mono ?_
    rintro e w5 ⟨a', c', rfl, hr, hb5⟩
    go_wp2_with fail
    go_ret2
    exact ⟨a', c', _, rfl, HL4.out.symm, ⟨own_mono hr.row HB3.out.size, hr.n8, hr.sl, hr.len⟩, below_step HB3.out HB3.out.size hb5⟩
  · have hh4 : ¬ (4 : Int) < (xs.length : Int) + 1 := by omega
    have h4' : xs.length ≤ 3 := by omega
    clear h4
    go_wp2_with (first
      | (at_builtin; refine app_own _ rfl _ _ 39 rfl w.heap.size 28 (.int .u64 0) 1 8 Tryz.underlying39 Tryz.infoU rfl (by decide) (.slice none 0 0) 0 [] rfl HN1.out la xs.length lc _ rfl HSL.out (nums_one _ _) (by omega) (by omega) (Nat.le_refl _) ?_; intro A2 c2 w2 h2 h3 h5; rw [Nat.zero_add, List.nil_append] at h2; have hs2 := h3.size; have H2 := Lib.hid h2; clear h2; have H3 := Lib.hid h3; clear h3 h5)
      | (at_builtin; refine app_one w2 rfl (.tmp 22) (.tmp 24) 39 rfl w.heap.size 28 (.int .u64 0) 1 8 Tryz.underlying39 Tryz.infoU rfl (by decide) (.slice A2 xs.length c2) xs.length _ rfl H2.out [.int .u64 id] rfl rfl (by simp [Value.oneCell']) (by omega) (by omega) hs2 ?_; intro A3 c3 w3 h6 h7 h8; obtain ⟨b3, cur3, rfl, hb3B, hk3, -, hc3, hcm3, -⟩ := own_at h6 (by omega); have hc32 : xs.length + 1 ≤ c3 := hc3; have H6 := Lib.hid h6; clear h6; have H7 := Lib.hid h7; clear h7 h8 hk3))
    have hb2 := (RowKit.Below.refl w.heap.size w).grown H3.out (Nat.le_refl _) (fun z hz => by simp [Value.ownBlock] at hz)
    have hb3 := hb2.grown H7.out hs2 (fun z hz => own_base H2.out z hz)
    have e1 : nums .u64 xs ++ [.int .u64 id] = nums .u64 (xs ++ [id]) := by simp [nums]
    have e2 : (xs ++ [id]).length = xs.length + 1 := by simp
    have hsl : Sl .u64 w3 (some ⟨b3, 0, none⟩) c3 (xs ++ [id]) := by
      have := own_rd H6.out
      rw [e1] at this
      show Rd 1 w3 _ (xs ++ [id]).length c3 _
      rw [e2]; exact this
    have hl4 : last4 (xs ++ [id]) = xs ++ [id] := by unfold last4; rw [e2, show xs.length + 1 - 4 = 0 by omega, List.drop_zero]
    have HL4 := Lib.hid hl4
    have hw := ref12_with (some ⟨b0, 0, none⟩) c R k ⟨some ⟨b3, 0, none⟩, c3, xs ++ [id]⟩ B w3 (HH.out.of_below hb3) hk hsl (by dsimp only; omega)
    dsimp only at hw
    rw [e2] at hw
    have HW := Lib.hid hw; clear hw hsl
    have HB3 := Lib.hid hb3; clear hb3 hb2 e1 e2 hl4
    refine HW.out.mono ?_
    rintro e w5 ⟨a', c', rfl, hr, hb5⟩
    go_wp2_with fail
    go_ret2
    exact ⟨a', c', _, rfl, HL4.out.symm, ⟨own_mono hr.row HB3.out.size, hr.n8, hr.sl, hr.len⟩, below_step HB3.out HB3.out.size hb5⟩
end Go.Proofs.YtonfaojmphidpaaGreatDoor
