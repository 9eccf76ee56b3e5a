/- Chapter 10: the factory's clone. -/
import Derived.Test.YtonfaojmphidpaaGreatDoorFacP
namespace Go.Proofs.YtonfaojmphidpaaGreatDoor
open Go.RowKit Go.Maps
set_option linter.unusedVariables false
set_option linter.unusedSimpArgs false

/-- A clone of a factory. -/
def FcCloned (xs ys : List Bool) (t : Int) (S : List Int) (w : World) (e : Ending) (w' : World) : Prop := ∃ g b a1 c1 a2 c2, e = .returned (.pointer (some ⟨g, 0, none⟩)) ∧ Fc w' g b a1 c1 xs a2 c2 ys t S ∧ w.heap.size ≤ g ∧ w.heap.size ≤ b ∧ (∀ q, a1 = some q → w.heap.size ≤ q.block) ∧ (∀ q, a2 = some q → w.heap.size ≤ q.block) ∧ RowKit.Below w.heap.size w w'

set_option maxRecDepth 100000 in
set_option maxHeartbeats 4000000 in
theorem factory_Clone (g b : Nat) (a1 : Option Addr) (c1 : Nat) (xs : List Bool) (a2 : Option Addr) (c2 : Nat) (ys : List Bool) (t : Int) (S : List Int) (w : World) (h : Fc w g b a1 c1 xs a2 c2 ys t S) :
    Calls Tryz.prog 23 #[.pointer (some ⟨g, 0, none⟩)] w (FcCloned xs ys t S w) := by
  have hxc : ∀ w', RowKit.Below w.heap.size w w' → w'.cell? ⟨g, 0, none⟩ = some (.slice a1 xs.length c1) ∧ w'.cell? ⟨g, 1, none⟩ = some (.slice a2 ys.length c2) ∧ w'.cell? ⟨g, 2, none⟩ = some (.int .u64 t) ∧ w'.cell? ⟨g, 3, none⟩ = some (.map (some b)) := fun w' hw' => by
    have := (h.of_below hw').blk
    exact ⟨this.cell 0, this.cell 1, this.cell 2, this.cell 3⟩
  have HX := Lib.hid hxc; clear hxc
  have HH := Lib.hid h; clear h
  go_enter Tryz.func23, Tryz.ntmps23
  go_wp2_with fail
  refine wp_region_mix (fun w' => RowKit.Below w.heap.size w w') [(0, true), (1, true), (2, true), (3, true), (5, true), (6, true), (7, true), (8, true), (10, true), (11, true), (12, true), (13, true), (14, true), (15, true), (16, true), (17, true), (4, false), (9, false), (18, false), (19, true), (20, false), (21, true)] (by kernel_rfl) (by kernel_rfl) ((Below.refl _ _).drew) ?_
  refine ord_still rfl rfl (fun K hK => ?_); apply Exists.intro; refine ⟨fun w' hw' => ?_, ?_⟩; (obtain ⟨z0, z1, z2, z3⟩ := HX.out w' hw'; go_simp; first | done | exact ⟨rfl, rfl⟩ | exact rfl); (go_simp; refine hK _ ?_; clear hK K)
  refine ord_still rfl rfl (fun K hK => ?_); apply Exists.intro; refine ⟨fun w' hw' => ?_, ?_⟩; (obtain ⟨z0, z1, z2, z3⟩ := HX.out w' hw'; go_simp; first | done | exact ⟨rfl, rfl⟩ | exact rfl); (go_simp; refine hK _ ?_; clear hK K)
  refine ord_still rfl rfl (fun K hK => ?_); apply Exists.intro; refine ⟨fun w' hw' => ?_, ?_⟩; (obtain ⟨z0, z1, z2, z3⟩ := HX.out w' hw'; go_simp; first | done | exact ⟨rfl, rfl⟩ | exact rfl); (go_simp; refine hK _ ?_; clear hK K)
  refine ord_still rfl rfl (fun K hK => ?_); apply Exists.intro; refine ⟨fun w' hw' => ?_, ?_⟩; (obtain ⟨z0, z1, z2, z3⟩ := HX.out w' hw'; go_simp; first | done | exact ⟨rfl, rfl⟩ | exact rfl); (go_simp; refine hK _ ?_; clear hK K)
  refine ord_still rfl rfl (fun K hK => ?_); apply Exists.intro; refine ⟨fun w' hw' => ?_, ?_⟩; (obtain ⟨z0, z1, z2, z3⟩ := HX.out w' hw'; go_simp; first | done | exact ⟨rfl, rfl⟩ | exact rfl); (go_simp; refine hK _ ?_; clear hK K)
  refine ord_still rfl rfl (fun K hK => ?_); apply Exists.intro; refine ⟨fun w' hw' => ?_, ?_⟩; (obtain ⟨z0, z1, z2, z3⟩ := HX.out w' hw'; go_simp; first | done | exact ⟨rfl, rfl⟩ | exact rfl); (go_simp; refine hK _ ?_; clear hK K)
  refine ord_still rfl rfl (fun K hK => ?_); apply Exists.intro; refine ⟨fun w' hw' => ?_, ?_⟩; (obtain ⟨z0, z1, z2, z3⟩ := HX.out w' hw'; go_simp; first | done | exact ⟨rfl, rfl⟩ | exact rfl); (go_simp; refine hK _ ?_; clear hK K)
  refine ord_still rfl rfl (fun K hK => ?_); apply Exists.intro; refine ⟨fun w' hw' => ?_, ?_⟩; (obtain ⟨z0, z1, z2, z3⟩ := HX.out w' hw'; go_simp; first | done | exact ⟨rfl, rfl⟩ | exact rfl); (go_simp; refine hK _ ?_; clear hK K)
  refine ord_still rfl rfl (fun K hK => ?_); apply Exists.intro; refine ⟨fun w' hw' => ?_, ?_⟩; (obtain ⟨z0, z1, z2, z3⟩ := HX.out w' hw'; go_simp; first | done | exact ⟨rfl, rfl⟩ | exact rfl); (go_simp; refine hK _ ?_; clear hK K)
  refine ord_still rfl rfl (fun K hK => ?_); apply Exists.intro; refine ⟨fun w' hw' => ?_, ?_⟩; (obtain ⟨z0, z1, z2, z3⟩ := HX.out w' hw'; go_simp; first | done | exact ⟨rfl, rfl⟩ | exact rfl); (go_simp; refine hK _ ?_; clear hK K)
  refine ord_still rfl rfl (fun K hK => ?_); apply Exists.intro; refine ⟨fun w' hw' => ?_, ?_⟩; (obtain ⟨z0, z1, z2, z3⟩ := HX.out w' hw'; go_simp; first | done | exact ⟨rfl, rfl⟩ | exact rfl); (go_simp; refine hK _ ?_; clear hK K)
  refine ord_still rfl rfl (fun K hK => ?_); apply Exists.intro; refine ⟨fun w' hw' => ?_, ?_⟩; (obtain ⟨z0, z1, z2, z3⟩ := HX.out w' hw'; go_simp; first | done | exact ⟨rfl, rfl⟩ | exact rfl); (go_simp; refine hK _ ?_; clear hK K)
  refine ord_still rfl rfl (fun K hK => ?_); apply Exists.intro; refine ⟨fun w' hw' => ?_, ?_⟩; (obtain ⟨z0, z1, z2, z3⟩ := HX.out w' hw'; go_simp; first | done | exact ⟨rfl, rfl⟩ | exact rfl); (go_simp; refine hK _ ?_; clear hK K)
  refine ord_still rfl rfl (fun K hK => ?_); apply Exists.intro; refine ⟨fun w' hw' => ?_, ?_⟩; (obtain ⟨z0, z1, z2, z3⟩ := HX.out w' hw'; go_simp; first | done | exact ⟨rfl, rfl⟩ | exact rfl); (go_simp; refine hK _ ?_; clear hK K)
  refine ord_still rfl rfl (fun K hK => ?_); apply Exists.intro; refine ⟨fun w' hw' => ?_, ?_⟩; (obtain ⟨z0, z1, z2, z3⟩ := HX.out w' hw'; go_simp; first | done | exact ⟨rfl, rfl⟩ | exact rfl); (go_simp; refine hK _ ?_; clear hK K)
  refine ord_still rfl rfl (fun K hK => ?_); apply Exists.intro; refine ⟨fun w' hw' => ?_, ?_⟩; (obtain ⟨z0, z1, z2, z3⟩ := HX.out w' hw'; go_simp; first | done | exact ⟨rfl, rfl⟩ | exact rfl); (go_simp; refine hK _ ?_; clear hK K)
  refine ord_sole rfl rfl (fun K hK => ?_); go_simp
  refine (slices_Clone_bool a1 xs.length c1 _ _ (HH.out.r1.below (Below.refl w.heap.size w).drew) (bools_one _) (by have := HH.out.l1; omega)).mono ?_
  rintro e u1 ⟨a5, c5, rfl, ho5, -, hb5⟩
  have hc' := below_step (Below.refl w.heap.size w).drew (Nat.le_refl _) hb5
  refine ⟨_, rfl, hc', ?_⟩
  go_simp
  refine hK _ _ ?_; clear hK K
  have HC1 := Lib.hid hc'; clear hc' hb5
  have HO5 := Lib.hid ho5; clear ho5
  refine ord_sole rfl rfl (fun K hK => ?_); go_simp
  refine (slices_Clone_bool a2 ys.length c2 _ u1 (HH.out.r2.below HC1.out) (bools_one _) (by have := HH.out.l2; omega)).mono ?_
  rintro e u2 ⟨a6, c6, rfl, ho6, -, hb6⟩
  have hc' := below_step HC1.out HC1.out.size hb6
  refine ⟨_, rfl, hc', ?_⟩
  go_simp
  refine hK _ _ ?_; clear hK K
  have HC2 := Lib.hid hc'; clear hc'
  have HO5b := Lib.hid (own_below HO5.out hb6)
  have HO6 := Lib.hid ho6; clear ho6 hb6
  obtain ⟨D, hown, hT⟩ := HH.out.st.of_below HC2.out
  have hcon := AnyW.maps_Clone_owns Tryz.cloneB 28 (plainElem Tryz.prog 4) b S.length D u2 hown
  change Calls Tryz.prog 79 _ _ _ at hcon
  have HCON := Lib.hid hcon; clear hcon hown
  have HT := Lib.hid hT; clear hT
  refine ord_sole rfl rfl (fun K hK => ?_); go_simp
  refine (HCON.out).mono ?_
  rintro e u3 ⟨rfl, ho1, ho2, hb7⟩
  have hc' := below_step HC2.out HC2.out.size hb7
  refine ⟨_, rfl, hc', ?_⟩
  go_simp
  refine hK _ _ ?_; clear hK K
  have HC3 := Lib.hid hc'; clear hc'
  have HO1 := Lib.hid ho1; clear ho1 ho2
  have HB7 := Lib.hid hb7; clear hb7
  refine ord_still rfl rfl (fun K hK => ?_); apply Exists.intro; refine ⟨fun w' hw' => ?_, ?_⟩; (obtain ⟨z0, z1, z2, z3⟩ := HX.out w' hw'; go_simp; first | done | exact ⟨rfl, rfl⟩ | exact rfl); (go_simp; refine hK _ ?_; clear hK K)
  refine ord_sole rfl rfl (fun K hK => ?_); go_simp
  refine ⟨HC3.out.alloc HC3.out.size _, hK _ _ ?_⟩; clear hK K
  refine ord_still rfl rfl (fun K hK => ?_); apply Exists.intro; refine ⟨fun w' hw' => ?_, ?_⟩; (obtain ⟨z0, z1, z2, z3⟩ := HX.out w' hw'; go_simp; first | done | exact ⟨rfl, rfl⟩ | exact rfl); (go_simp; refine hK _ ?_; clear hK K)
  refine ord_nil ?_
  intro hCx
  have o5 := own_below HO5b.out HB7.out
  have o6 := own_below HO6.out HB7.out
  have hs3 := HC3.out.size
  have hs2 := HC2.out.size
  have hal := (RowKit.Below.refl u3.heap.size u3).alloc (Nat.le_refl _) (.cells #[.slice a5 xs.length c5, .slice a6 ys.length c6, .int .u64 t, .map (some u2.heap.size)] 131)
  have hs1 := HC1.out.size
  go_wp2
  go_ret
  exact ⟨u3.heap.size, u2.heap.size, a5, c5, a6, c6, rfl, ⟨Blk.new _ _ _, own_rd (own_below o5 hal), own_rd (own_below o6 hal), ⟨D, HO1.out.alloc _, HT.out⟩, HH.out.t0, HH.out.t1, HH.out.in_, HH.out.l1, HH.out.l2⟩, hs3, hs2, (fun q hq => by subst hq; exact own_base o5 _ rfl), (fun q hq => by subst hq; exact Nat.le_trans hs1 (own_base o6 _ rfl)), hCx⟩
end Go.Proofs.YtonfaojmphidpaaGreatDoor
