/- Chapter 10: told. -/
import Derived.Test.YtonfaojmphidpaaGreatDoorFacE
import Derived.Test.YtonfaojmphidpaaGreatDoorRef10Q
namespace Go.Proofs.YtonfaojmphidpaaGreatDoor
open Go.RowKit Go.Maps
set_option linter.unusedVariables false
set_option linter.unusedSimpArgs false

set_option maxRecDepth 100000 in
set_option maxHeartbeats 8000000 in
theorem law10_told (g b : Nat) (a1 : Option Addr) (c1 : Nat) (xs : List Bool) (a2 : Option Addr) (c2 : Nat) (ys : List Bool) (t : Nat) (S : List Int) (v : Value) (xs' ys' : List Bool) (id : Int) (w : World) (h : Fc w g b a1 c1 xs a2 c2 ys t S) (hz : Rz w v xs' ys' t S) (hid : In64 id) (hSl : S.length ≤ 1000) :
    Calls Tryz.prog 27 #[.pointer (some ⟨g, 0, none⟩), v, .int .u64 id] w fun e w' => e = .returned (.bool true) ∧ RowKit.Below w.heap.size w w' := by
  obtain ⟨d1, n1, d2, n2, d3, n3, sh, rfl, r1, r2, r3, r4⟩ := hz
  have hln : sh.length = t := r4.1
  rw [hln]
  have ht1 : (t : Int) ≤ 1000 := h.t1
  have hcnt := openIds_len h.st.nodup h.in_
  have hal := (RowKit.Below.refl w.heap.size w).alloc (Nat.le_refl _) (.cells #[.slice d1 xs'.length n1, .slice d2 ys'.length n2, .slice d3 t n3] 43)
  have hk := Blk.new w 43 #[.slice d1 xs'.length n1, .slice d2 ys'.length n2, .slice d3 t n3]
  have hids := ref10_IDs d1 xs'.length n1 d2 ys'.length n2 d3 n3 sh t S _ (r3.below hal) r4 (by omega)
  rw [hln] at hids
  have HIDS := Lib.hid hids; clear hids
  have HK := Lib.hid hk; clear hk
  have HAL := Lib.hid hal; clear hal
  have HH := Lib.hid h; clear h
  have R3 := Lib.hid r3; clear r3 r1 r2
  have R4 := Lib.hid r4; clear r4
  have HLN := Lib.hid hln; clear hln
  have hol : (openIds S t).length ≤ 1000 := by omega
  have hw1 : IntKind.i64.wrap ((t : Int) - ((openIds S t).length : Int)) = (S.length : Int) := by rw [IntKind.wrap_i64]; omega
  have hw2 : IntKind.u64.wrap (S.length : Int) = (S.length : Int) := by rw [IntKind.wrap_u64]; omega
  have hw3 : IntKind.u64.wrap (t : Int) = (t : Int) := by rw [IntKind.wrap_u64]; omega
  clear hcnt
  go_enter Tryz.func27, Tryz.ntmps27
  go_wp2_with fail
  refine HIDS.out.mono ?_
  rintro e w2 ⟨A7, c7, rfl, ho7, hb7⟩
  have hxc : ∀ w', RowKit.Below w2.heap.size w2 w' → w'.cell? ⟨w.heap.size, 0, none⟩ = some (.slice d1 xs'.length n1) ∧ w'.cell? ⟨w.heap.size, 1, none⟩ = some (.slice d2 ys'.length n2) ∧ w'.cell? ⟨w.heap.size, 2, none⟩ = some (.slice d3 t n3) := fun w' hw' => by
    have := (HK.out.of_below hb7).of_below hw'
    exact ⟨this.cell 0, this.cell 1, this.cell 2⟩
  have HX := Lib.hid hxc; clear hxc
  have HB2 := Lib.hid (below_step HAL.out HAL.out.size hb7); clear hb7
  have HF2 := Lib.hid (HH.out.of_below HB2.out)
  have HO7 := Lib.hid ho7; clear ho7 HIDS
  go_wp2_with fail
  refine wp_region_mix (fun w' => RowKit.Below w2.heap.size w2 w') [(0, true), (2, true), (1, false), (3, false), (4, true), (5, true), (7, true), (8, true), (9, true), (10, true), (6, false), (11, true), (12, true), (13, true), (14, true), (16, true), (17, true), (18, true), (19, true), (20, true), (21, true), (22, true), (15, false), (23, true), (24, true), (25, true), (26, true), (27, true), (29, true), (30, true), (28, false), (31, false), (32, true), (33, true), (34, true), (35, true)] (by kernel_rfl) (by kernel_rfl) ((Below.refl _ _).drew) ?_
  refine ord_still rfl rfl (fun K hK => ?_); apply Exists.intro; refine ⟨fun w' hw' => ?_, ?_⟩; (obtain ⟨z0, z1, z2⟩ := HX.out w' hw'; go_simp; first | done | exact ⟨rfl, rfl⟩ | exact rfl); (go_simp; refine hK _ ?_; clear hK K)
  refine ord_still rfl rfl (fun K hK => ?_); apply Exists.intro; refine ⟨fun w' hw' => ?_, ?_⟩; (obtain ⟨z0, z1, z2⟩ := HX.out w' hw'; go_simp; first | done | exact ⟨rfl, rfl⟩ | exact rfl); (go_simp; refine hK _ ?_; clear hK K)
  refine ord_sole rfl rfl (fun K hK => ?_); go_simp
  refine (factory_IDs g b a1 c1 xs a2 c2 ys t S _ (HF2.out.of_below (Below.refl w2.heap.size w2).drew)).mono ?_
  rintro e u1 ⟨A8, c8, rfl, ho8, hb8⟩
  have hc' := below_step (Below.refl w2.heap.size w2).drew (Nat.le_refl _) hb8
  refine ⟨_, rfl, hc', ?_⟩
  go_simp
  refine hK _ _ ?_; clear hK K
  have HC1 := Lib.hid hc'; clear hc' hb8
  have heq := slices_Equal_u64 A8 A7 c8 c7 (openIds S t) (openIds S t) u1 (own_rd ho8) (own_rd (own_below HO7.out HC1.out)) (by omega) (by omega)
  rw [beq_self_eq_true] at heq
  have HEQ := Lib.hid heq; clear heq ho8
  refine ord_sole rfl rfl (fun K hK => ?_); go_simp
  refine (HEQ.out).mono ?_
  rintro e u2 ⟨rfl, q2, rfl⟩
  have hc' := below_drewN HC1.out q2
  refine ⟨_, rfl, hc', ?_⟩
  go_simp
  refine hK _ _ ?_; clear hK K
  have HC2 := Lib.hid hc'; clear hc' HEQ
  refine ord_still rfl rfl (fun K hK => ?_); apply Exists.intro; refine ⟨fun w' hw' => ?_, ?_⟩; (obtain ⟨z0, z1, z2⟩ := HX.out w' hw'; go_simp; first | done | exact ⟨rfl, rfl⟩ | exact rfl); (go_simp; refine hK _ ?_; clear hK K)
  refine ord_still rfl rfl (fun K hK => ?_); apply Exists.intro; refine ⟨fun w' hw' => ?_, ?_⟩; (obtain ⟨z0, z1, z2⟩ := HX.out w' hw'; go_simp; first | done | exact ⟨rfl, rfl⟩ | exact rfl); (go_simp; refine hK _ ?_; clear hK K)
  refine ord_still rfl rfl (fun K hK => ?_); apply Exists.intro; refine ⟨fun w' hw' => ?_, ?_⟩; (obtain ⟨z0, z1, z2⟩ := HX.out w' hw'; go_simp; first | done | exact ⟨rfl, rfl⟩ | exact rfl); (go_simp; refine hK _ ?_; clear hK K)
  refine ord_still rfl rfl (fun K hK => ?_); apply Exists.intro; refine ⟨fun w' hw' => ?_, ?_⟩; (obtain ⟨z0, z1, z2⟩ := HX.out w' hw'; go_simp; first | done | exact ⟨rfl, rfl⟩ | exact rfl); (go_simp; refine hK _ ?_; clear hK K)
  refine ord_still rfl rfl (fun K hK => ?_); apply Exists.intro; refine ⟨fun w' hw' => ?_, ?_⟩; (obtain ⟨z0, z1, z2⟩ := HX.out w' hw'; go_simp; first | done | exact ⟨rfl, rfl⟩ | exact rfl); (go_simp; refine hK _ ?_; clear hK K)
  refine ord_still rfl rfl (fun K hK => ?_); apply Exists.intro; refine ⟨fun w' hw' => ?_, ?_⟩; (obtain ⟨z0, z1, z2⟩ := HX.out w' hw'; go_simp; first | done | exact ⟨rfl, rfl⟩ | exact rfl); (go_simp; refine hK _ ?_; clear hK K)
  refine ord_sole rfl rfl (fun K hK => ?_); go_simp
  refine (factory_Opened g b a1 c1 xs a2 c2 ys t S _ (HF2.out.of_below HC2.out)).mono ?_
  rintro e u3 ⟨rfl, rfl⟩
  have hc' := HC2.out
  refine ⟨_, rfl, hc', ?_⟩
  go_simp
  refine hK _ _ ?_; clear hK K
  clear hc'
  refine ord_still rfl rfl (fun K hK => ?_); apply Exists.intro; refine ⟨fun w' hw' => ?_, ?_⟩; (obtain ⟨z0, z1, z2⟩ := HX.out w' hw'; go_simp; first | done | exact ⟨rfl, rfl⟩ | exact rfl); (go_simp; refine hK _ ?_; clear hK K)
  refine ord_still rfl rfl (fun K hK => ?_); apply Exists.intro; refine ⟨fun w' hw' => ?_, ?_⟩; (obtain ⟨z0, z1, z2⟩ := HX.out w' hw'; go_simp; first | done | exact ⟨rfl, rfl⟩ | exact rfl); (go_simp; refine hK _ ?_; clear hK K)
  refine ord_still rfl rfl (fun K hK => ?_); apply Exists.intro; refine ⟨fun w' hw' => ?_, ?_⟩; (obtain ⟨z0, z1, z2⟩ := HX.out w' hw'; go_simp; first | done | exact ⟨rfl, rfl⟩ | exact rfl); (go_simp; refine hK _ ?_; clear hK K)
  refine ord_still rfl rfl (fun K hK => ?_); apply Exists.intro; refine ⟨fun w' hw' => ?_, ?_⟩; (obtain ⟨z0, z1, z2⟩ := HX.out w' hw'; go_simp; first | done | exact ⟨rfl, rfl⟩ | exact rfl); (go_simp; refine hK _ ?_; clear hK K)
  refine ord_still rfl rfl (fun K hK => ?_); apply Exists.intro; refine ⟨fun w' hw' => ?_, ?_⟩; (obtain ⟨z0, z1, z2⟩ := HX.out w' hw'; go_simp; first | done | exact ⟨rfl, rfl⟩ | exact rfl); (go_simp; refine hK _ ?_; clear hK K)
  refine ord_still rfl rfl (fun K hK => ?_); apply Exists.intro; refine ⟨fun w' hw' => ?_, ?_⟩; (obtain ⟨z0, z1, z2⟩ := HX.out w' hw'; go_simp; first | done | exact ⟨rfl, rfl⟩ | exact rfl); (go_simp; refine hK _ ?_; clear hK K)
  refine ord_still rfl rfl (fun K hK => ?_); apply Exists.intro; refine ⟨fun w' hw' => ?_, ?_⟩; (obtain ⟨z0, z1, z2⟩ := HX.out w' hw'; go_simp; first | done | exact ⟨rfl, rfl⟩ | exact rfl); (go_simp; refine hK _ ?_; clear hK K)
  refine ord_still rfl rfl (fun K hK => ?_); apply Exists.intro; refine ⟨fun w' hw' => ?_, ?_⟩; (obtain ⟨z0, z1, z2⟩ := HX.out w' hw'; go_simp; first | done | exact ⟨rfl, rfl⟩ | exact rfl); (go_simp; refine hK _ ?_; clear hK K)
  refine ord_still rfl rfl (fun K hK => ?_); apply Exists.intro; refine ⟨fun w' hw' => ?_, ?_⟩; (obtain ⟨z0, z1, z2⟩ := HX.out w' hw'; go_simp; first | done | exact ⟨rfl, rfl⟩ | exact rfl); (go_simp; refine hK _ ?_; clear hK K)
  refine ord_still rfl rfl (fun K hK => ?_); apply Exists.intro; refine ⟨fun w' hw' => ?_, ?_⟩; (obtain ⟨z0, z1, z2⟩ := HX.out w' hw'; go_simp; first | done | exact ⟨rfl, rfl⟩ | exact rfl); (go_simp; refine hK _ ?_; clear hK K)
  refine ord_still rfl rfl (fun K hK => ?_); apply Exists.intro; refine ⟨fun w' hw' => ?_, ?_⟩; (obtain ⟨z0, z1, z2⟩ := HX.out w' hw'; go_simp; first | done | exact ⟨rfl, rfl⟩ | exact rfl); (go_simp; refine hK _ ?_; clear hK K)
  refine ord_sole rfl rfl (fun K hK => ?_); go_simp
  refine (factory_Closed g b a1 c1 xs a2 c2 ys t S _ (HF2.out.of_below HC2.out) (by omega)).mono ?_
  rintro e u4 ⟨rfl, rfl⟩
  have hc' := HC2.out
  refine ⟨_, rfl, hc', ?_⟩
  go_simp
  refine hK _ _ ?_; clear hK K
  clear hc'
  refine ord_still rfl rfl (fun K hK => ?_); apply Exists.intro; refine ⟨fun w' hw' => ?_, ?_⟩; (obtain ⟨z0, z1, z2⟩ := HX.out w' hw'; go_simp; first | done | exact ⟨rfl, rfl⟩ | exact rfl); (go_simp; refine hK _ ?_; clear hK K)
  refine ord_still rfl rfl (fun K hK => ?_); apply Exists.intro; refine ⟨fun w' hw' => ?_, ?_⟩; (obtain ⟨z0, z1, z2⟩ := HX.out w' hw'; go_simp; first | done | exact ⟨rfl, rfl⟩ | exact rfl); (go_simp; refine hK _ ?_; clear hK K)
  refine ord_still rfl rfl (fun K hK => ?_); apply Exists.intro; refine ⟨fun w' hw' => ?_, ?_⟩; (obtain ⟨z0, z1, z2⟩ := HX.out w' hw'; go_simp; first | done | exact ⟨rfl, rfl⟩ | exact rfl); (go_simp; refine hK _ ?_; clear hK K)
  refine ord_still rfl rfl (fun K hK => ?_); apply Exists.intro; refine ⟨fun w' hw' => ?_, ?_⟩; (obtain ⟨z0, z1, z2⟩ := HX.out w' hw'; go_simp; first | done | exact ⟨rfl, rfl⟩ | exact rfl); (go_simp; refine hK _ ?_; clear hK K)
  refine ord_still rfl rfl (fun K hK => ?_); apply Exists.intro; refine ⟨fun w' hw' => ?_, ?_⟩; (obtain ⟨z0, z1, z2⟩ := HX.out w' hw'; go_simp; first | done | exact ⟨rfl, rfl⟩ | exact rfl); (go_simp; refine hK _ ?_; clear hK K)
  refine ord_still rfl rfl (fun K hK => ?_); apply Exists.intro; refine ⟨fun w' hw' => ?_, ?_⟩; (obtain ⟨z0, z1, z2⟩ := HX.out w' hw'; go_simp; first | done | exact ⟨rfl, rfl⟩ | exact rfl); (go_simp; refine hK _ ?_; clear hK K)
  refine ord_still rfl rfl (fun K hK => ?_); apply Exists.intro; refine ⟨fun w' hw' => ?_, ?_⟩; (obtain ⟨z0, z1, z2⟩ := HX.out w' hw'; go_simp; first | done | exact ⟨rfl, rfl⟩ | exact rfl); (go_simp; refine hK _ ?_; clear hK K)
  have hio := factory_IsOpen g b a1 c1 xs a2 c2 ys t S id _ (HF2.out.of_below HC2.out) hid
  have hkn := ref10_Known d1 xs'.length n1 d2 ys'.length n2 d3 n3 sh t S id 10 _ ((R3.out.below HB2.out).below HC2.out) R4.out (by omega) hid
  rw [HLN.out] at hkn
  generalize knownF t S id 10 = r at hio hkn
  have HKN := Lib.hid hkn; clear hkn
  have HIO := Lib.hid hio; clear hio
  refine ord_sole rfl rfl (fun K hK => ?_); go_simp
  refine (HIO.out).mono ?_
  rintro e u5 ⟨rfl, rfl⟩
  have hc' := HC2.out
  refine ⟨_, rfl, hc', ?_⟩
  go_simp
  refine hK _ _ ?_; clear hK K
  clear hc'
  refine ord_sole rfl rfl (fun K hK => ?_); go_simp
  refine (HKN.out).mono ?_
  rintro e u6 ⟨rfl, hb9⟩
  have hc' := below_step HC2.out HC2.out.size hb9
  refine ⟨_, rfl, hc', ?_⟩
  go_simp
  refine hK _ _ ?_; clear hK K
  have HC3 := Lib.hid hc'; clear hc' hb9
  refine ord_still rfl rfl (fun K hK => ?_); apply Exists.intro; refine ⟨fun w' hw' => ?_, ?_⟩; (obtain ⟨z0, z1, z2⟩ := HX.out w' hw'; go_simp; first | done | exact ⟨rfl, rfl⟩ | exact rfl); (go_simp; refine hK _ ?_; clear hK K)
  refine ord_still rfl rfl (fun K hK => ?_); apply Exists.intro; refine ⟨fun w' hw' => ?_, ?_⟩; (obtain ⟨z0, z1, z2⟩ := HX.out w' hw'; go_simp; first | done | exact ⟨rfl, rfl⟩ | exact rfl); (go_simp; refine hK _ ?_; clear hK K)
  refine ord_still rfl rfl (fun K hK => ?_); apply Exists.intro; refine ⟨fun w' hw' => ?_, ?_⟩; (obtain ⟨z0, z1, z2⟩ := HX.out w' hw'; go_simp; first | done | exact ⟨rfl, rfl⟩ | exact rfl); (go_simp; refine hK _ ?_; clear hK K)
  refine ord_still rfl rfl (fun K hK => ?_); apply Exists.intro; refine ⟨fun w' hw' => ?_, ?_⟩; (obtain ⟨z0, z1, z2⟩ := HX.out w' hw'; go_simp; first | done | exact ⟨rfl, rfl⟩ | exact rfl); (go_simp; refine hK _ ?_; clear hK K)
  refine ord_nil ?_
  intro hCx
  go_wp2
  go_ret
  exact ⟨rfl, below_step HB2.out HB2.out.size HC3.out⟩
end Go.Proofs.YtonfaojmphidpaaGreatDoor
