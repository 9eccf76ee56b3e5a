/- Chapter 12: lists of each thread: Len, Clone. -/
import Derived.Test.YtonfaojmphidpaaGreatDoorLocB
import Derived.Test.YtonfaojmphidpaaGreatDoorZA1
import Derived.Deep.LoopGhost
namespace Go.Proofs.YtonfaojmphidpaaGreatDoor
open Go.RowKit
set_option linter.unusedVariables false
set_option linter.unusedSimpArgs false

instance : Inhabited Ln := ⟨⟨none, 0, []⟩⟩
def lensN (F : List Ln) : Nat := (F.map fun l => l.xs.length).sum
theorem lensN_snoc {F : List Ln} {k : Nat} {l : Ln} (h : F[k]? = some l) : lensN (F.take (k + 1)) = lensN (F.take k) + l.xs.length := by
  rw [take_snoc2 h]; simp [lensN]
theorem lensN_le {F : List Ln} (h : ∀ l ∈ F, l.xs.length ≤ 4) : lensN F ≤ F.length * 4 := by
  induction F with
  | nil => simp [lensN]
  | cons l F ih =>
    have h1 := h l List.mem_cons_self
    have h2 := ih fun m hm => h m (List.mem_cons_of_mem _ hm)
    simp only [lensN, List.map_cons, List.sum_cons, List.length_cons] at h2 ⊢
    omega

set_option maxHeartbeats 2000000 in
theorem local_Len (g : Nat) (F : List Ln) (w : World) (h : Ls w g F) :
    Calls Tryz.prog 54 #[.pointer (some ⟨g, 0, none⟩)] w fun e w' => e = .returned (.int .i64 (lensN F)) ∧ RowKit.Below w.heap.size w w' := by
  have HH := Lib.hid h; clear h
  go_enter Tryz.func54, Tryz.ntmps54
  go_wp2_with fail
  go_loopw [3, 5] (fun n i wr => ∃ k : Nat, k ≤ 8 ∧ i = .int .i64 k ∧ n = .int .i64 (lensN (F.take k)) ∧ RowKit.Below w.heap.size w wr) (fun _ i _ => 8 - (intOf i).toNat)
  case atStart => exact ⟨0, by omega, rfl, rfl, Below.refl _ _⟩
  case round =>
    obtain ⟨k, hk, rfl, rfl, hB⟩ := hrel
    have HB := Lib.hid hB; clear hB
    have hle := lensN_le (F := F.take k) fun l hl => HH.out.len l (List.mem_of_mem_take hl)
    have hl2 : (F.take k).length ≤ k := List.length_take_le _ _
    by_cases hlt : k < 8
    · obtain ⟨l, hl⟩ := HH.out.get hlt
      have hs := lensN_snoc hl
      have hll := HH.out.len l (List.mem_of_getElem? hl)
      have hall := local_All g F k l hl wr (HH.out.of_below HB.out)
      have HA := Lib.hid hall; clear hall hl
      have HS := Lib.hid hs; clear hs
      go_wp2_with (go_at_call 53; refine HA.out.mono ?_; rintro e w2 ⟨a2, c2, rfl, -, hb2⟩)
      go_roundw
      case rel => exact ⟨k + 1, by omega, by go_num, by rw [HS.out]; go_num, below_step HB.out HB.out.size hb2⟩
      case measure => simp [intOf]; omega
    · go_wp2
      go_ret
      exact ⟨ret_int (by rw [List.take_of_length_le (by rw [HH.out.n8]; omega)]), HB.out⟩

set_option maxRecDepth 1000000 in
theorem idx8 (l0 l1 l2 l3 l4 l5 l6 l7 l : Ln) (k : Nat) (hv : [l0, l1, l2, l3, l4, l5, l6, l7][k]? = some l) (W : World) :
    (Instr.index 99 (.agg #[.slice l0.a l0.xs.length l0.c, .slice l1.a l1.xs.length l1.c, .slice l2.a l2.xs.length l2.c, .slice l3.a l3.xs.length l3.c, .slice l4.a l4.xs.length l4.c, .slice l5.a l5.xs.length l5.c, .slice l6.a l6.xs.length l6.c, .slice l7.a l7.xs.length l7.c]) (.int .i64 k)).run Tryz.prog W = .ok (.slice l.a l.xs.length l.c) W := by
  have H : ∀ u n c, l.a = u → l.xs.length = n → l.c = c → (Instr.index 99 (.agg #[.slice l0.a l0.xs.length l0.c, .slice l1.a l1.xs.length l1.c, .slice l2.a l2.xs.length l2.c, .slice l3.a l3.xs.length l3.c, .slice l4.a l4.xs.length l4.c, .slice l5.a l5.xs.length l5.c, .slice l6.a l6.xs.length l6.c, .slice l7.a l7.xs.length l7.c]) (.int .i64 k)).run Tryz.prog W = .ok (.slice u n c) W := by
    intro u n c e1 e2 e3
    subst e1 e2 e3
    rcases k with _ | _ | _ | _ | _ | _ | _ | _ | k
    all_goals first
      | (simp only [List.getElem?_cons_zero, List.getElem?_cons_succ, Option.some.injEq] at hv; subst hv; rfl)
      | (simp at hv)
  exact H _ _ _ rfl rfl rfl
/-- A clone's end. -/
def LsCloned (F : List Ln) (w : World) (e : Ending) (w' : World) : Prop := ∃ g' G, e = .returned (.pointer (some ⟨g', 0, none⟩)) ∧ Ls w' g' G ∧ (∀ j, j < 8 → (G.getD j default).xs = (F.getD j default).xs) ∧ w.heap.size ≤ g' ∧ RowKit.Below w.heap.size w w'

set_option maxRecDepth 100000 in
set_option maxHeartbeats 2000000 in
theorem local_Clone (g : Nat) (F : List Ln) (w : World) (h : Ls w g F) :
    Calls Tryz.prog 47 #[.pointer (some ⟨g, 0, none⟩)] w (LsCloned F w) := by
  have hlt := h.blk.lt
  have hF : ∃ l0 l1 l2 l3 l4 l5 l6 l7, F = [l0, l1, l2, l3, l4, l5, l6, l7] := by
    have h8 := h.n8
    match F, h8 with
    | [l0, l1, l2, l3, l4, l5, l6, l7], _ => exact ⟨_, _, _, _, _, _, _, _, rfl⟩
  obtain ⟨l0, l1, l2, l3, l4, l5, l6, l7, hF⟩ := hF
  have hal := (RowKit.Below.refl w.heap.size w).alloc (Nat.le_refl _) (.cells #[.slice none 0 0, .slice none 0 0, .slice none 0 0, .slice none 0 0, .slice none 0 0, .slice none 0 0, .slice none 0 0, .slice none 0 0] 146)
  have hw1 := h.of_below hal
  have c0 := hw1.at_ (k := 0) (l := l0) (by rw [hF]; rfl)
  have c1 := hw1.at_ (k := 1) (l := l1) (by rw [hF]; rfl)
  have c2 := hw1.at_ (k := 2) (l := l2) (by rw [hF]; rfl)
  have c3 := hw1.at_ (k := 3) (l := l3) (by rw [hF]; rfl)
  have c4 := hw1.at_ (k := 4) (l := l4) (by rw [hF]; rfl)
  have c5 := hw1.at_ (k := 5) (l := l5) (by rw [hF]; rfl)
  have c6 := hw1.at_ (k := 6) (l := l6) (by rw [hF]; rfl)
  have c7 := hw1.at_ (k := 7) (l := l7) (by rw [hF]; rfl)
  have HF := Lib.hid hF; clear hF
  have HH := Lib.hid h; clear h
  have HW1 := Lib.hid hw1; clear hw1
  have HAL := Lib.hid hal; clear hal
  have hnew := Ls.new w
  have HN := Lib.hid hnew; clear hnew
  go_enter Tryz.func47, Tryz.ntmps47
  go_wp2_with fail
  refine (local_New _).mono ?_
  rintro e w1 ⟨rfl, rfl⟩
  go_wp2_with fail
  go_loopg [13] 8 (fun gh i wr => ∃ (k : Nat) (G : List Ln), gh = 8 - k ∧ k ≤ 8 ∧ i = .int .i64 k ∧ Ls wr w.heap.size G ∧ (∀ j, j < k → (G.getD j default).xs = (F.getD j default).xs) ∧ RowKit.Below w.heap.size w wr)
  case atStart => exact ⟨0, _, rfl, by omega, rfl, HN.out, (fun j hj => absurd hj (by omega)), HAL.out⟩
  case round =>
    clear c0 c1 c2 c3 c4 c5 c6 c7
    obtain ⟨k, G, rfl, hk, rfl, hG, hsame, hB⟩ := hrel
    have HG := Lib.hid hG; clear hG
    have HSM := Lib.hid hsame; clear hsame
    have HB := Lib.hid hB; clear hB
    by_cases hlt : k < 8
    · obtain ⟨l, hl⟩ := HH.out.get hlt
      obtain ⟨m, hm⟩ := HG.out.get hlt
      have hix := idx8 l0 l1 l2 l3 l4 l5 l6 l7 l k (by rw [← HF.out]; exact hl)
      have hmem : l ∈ F := List.mem_of_getElem? hl
      have hcl := fun w' (hb : RowKit.Below wr.heap.size wr w') => slices_Clone_u64 l.a l.c l.xs w' (((HH.out.of_below HB.out).of_below hb).sl l hmem) (by have := HH.out.len l hmem; omega)
      have HCL := Lib.hid hcl; clear hcl
      have hll := HH.out.len l hmem
      have hl' : F.getD k default = l := by rw [List.getD_eq_getElem?_getD, hl]; rfl
      have HL := Lib.hid hl'; clear hl' hl hmem
      have p0 := HG.out.at_ hm
      have HM := Lib.hid hm; clear hm
      have hgk := HG.out.blk.lt
      go_wp2_with fail
      refine wp_region_mix_tail (fun w' => RowKit.Below wr.heap.size wr w') 7 [(0, true), (1, true), (2, true), (4, true), (5, true), (3, false), (6, true)] (by kernel_rfl) (by kernel_rfl) ((Below.refl _ _).drew) ?_
      refine ord_still rfl rfl (fun K hK => ?_); apply Exists.intro; refine ⟨fun w' hw' => ?_, ?_⟩; (skip; go_simp; first | done | exact ⟨rfl, rfl⟩ | exact rfl); (go_simp; refine hK _ ?_; clear hK K)
      refine ord_still rfl rfl (fun K hK => ?_); apply Exists.intro; refine ⟨fun w' hw' => ?_, ?_⟩; (skip; go_simp; first | done | exact ⟨rfl, rfl⟩ | exact rfl); (go_simp; refine hK _ ?_; clear hK K)
      refine ord_still rfl rfl (fun K hK => ?_); apply Exists.intro; refine ⟨fun w' hw' => ?_, ?_⟩; (skip; go_simp; first | done | exact ⟨rfl, rfl⟩ | exact rfl); (go_simp; refine hK _ ?_; clear hK K)
      refine ord_still rfl rfl (fun K hK => ?_); apply Exists.intro; refine ⟨fun w' hw' => ?_, ?_⟩; (skip; go_simp; first | done | exact ⟨rfl, rfl⟩ | exact rfl); (go_simp; refine hK _ ?_; clear hK K)
      refine ord_still rfl rfl (fun K hK => ?_); apply Exists.intro; refine ⟨fun w' hw' => ?_, ?_⟩; (skip; go_simp; first | done | exact ⟨rfl, rfl⟩ | exact rfl); (go_simp; refine hK _ ?_; clear hK K)
      refine ord_sole rfl rfl (fun K hK => ?_); go_simp
      refine (HCL.out _ (Below.refl _ _).drew).mono ?_
      rintro e w5 ⟨a5, c5, rfl, ho5, -, hb5⟩
      refine ⟨_, rfl, below_step (Below.refl _ _).drew (Nat.le_refl _) hb5, ?_⟩
      go_simp
      refine hK _ _ ?_; clear hK K
      refine ord_still rfl rfl (fun K hK => ?_); apply Exists.intro; refine ⟨fun w' hw' => ?_, ?_⟩; (skip; go_simp; first | done | exact ⟨rfl, rfl⟩ | exact rfl); (go_simp; refine hK _ ?_; clear hK K)
      refine ord_nil ?_
      intro hC
      simp only [List.drop_succ_cons, List.drop_zero]
      have hGw := HG.out.of_below hC
      have q0 : w5.cell? ⟨w.heap.size, k, none⟩ = some (.slice m.a m.xs.length m.c) := by rw [hC.cell (p := ⟨w.heap.size, k, none⟩) hgk]; exact p0
      have q1 := hGw.blk.frozen k
      have q2 := hGw.blk.lt
      have HGW := Lib.hid hGw; clear hGw
      have HC := Lib.hid hC; clear hC
      have HO5 := Lib.hid ho5; clear ho5 hb5
      go_wp2_with fail
      go_roundg (8 - (k + 1))
      case measure => omega
      case rel =>
        have hs5 : Sl .u64 w5 a5 c5 l.xs := own_rd HO5.out
        refine ⟨k + 1, G.set k ⟨a5, c5, l.xs⟩, rfl, by omega, by go_num, HG.out.turn HC.out hlt ⟨a5, c5, l.xs⟩ hs5 hll, fun j hj => ?_, (below_step HB.out HB.out.size HC.out).setCell (Nat.le_refl _) _⟩
        have hgl := HG.out.n8
        by_cases e : j = k
        · subst e
          rw [HL.out, List.getD_eq_getElem?_getD, List.getElem?_set_self (by omega)]; rfl
        · rw [List.getD_eq_getElem?_getD, List.getElem?_set_ne (fun e' => e e'.symm), ← List.getD_eq_getElem?_getD]
          exact HSM.out j (by omega)
    · obtain rfl : k = 8 := by omega
      go_wp2
      go_ret
      exact ⟨w.heap.size, G, rfl, HG.out, HSM.out, Nat.le_refl _, HB.out⟩
end Go.Proofs.YtonfaojmphidpaaGreatDoor
