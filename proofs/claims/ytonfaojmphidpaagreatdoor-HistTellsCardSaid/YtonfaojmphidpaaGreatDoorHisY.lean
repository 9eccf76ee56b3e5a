/- Chapter 9: the document's text of any event. -/
import Derived.Test.YtonfaojmphidpaaGreatDoorHisX
namespace Go.Proofs.YtonfaojmphidpaaGreatDoor
open Go.RowKit Go.Shelf Go.Sort Go.Lib
set_option linter.unusedVariables false
set_option linter.unusedSimpArgs false
theorem sz1 : (⟨#[32]⟩ : ByteArray).size = 1 := rfl
theorem six_cat (a b c d e f : ByteArray) : a ++ ⟨#[32]⟩ ++ b ++ ⟨#[32]⟩ ++ c ++ ⟨#[32]⟩ ++ d ++ ⟨#[32]⟩ ++ e ++ ⟨#[32]⟩ ++ f = ⟨(Lib.join ([a, b, c, d, e, f].map (·.data.toList)) [32]).toArray⟩ := by
  apply ByteArray.ext
  simp [Lib.join]
set_option maxRecDepth 100000 in
set_option maxHeartbeats 8000000 in
theorem ref09_Text (st th kd op id er : Int) (h1 : 0 ≤ st ∧ st ≤ 18446744073709551615) (h2 : -9223372036854775808 ≤ th ∧ th ≤ 9223372036854775807) (h5 : 0 ≤ id ∧ id ≤ 18446744073709551615) (h6 : -9223372036854775808 ≤ er ∧ er ≤ 9223372036854775807) (w : World) (ht : Pow10 w) :
    Calls Tryz.prog 73 #[.agg #[.int .u64 st, .int .i64 th, .int .i64 kd, .int .i64 op, .int .u64 id, .int .i64 er]] w fun e w' => e = .returned (.string (evText st th kd op id er)) ∧ RowKit.Below w.heap.size w w' := by
  have htx : evText st th kd op id er = fmtB st ++ ⟨#[32]⟩ ++ itoB th ++ ⟨#[32]⟩ ++ wordB kd kindsL ++ ⟨#[32]⟩ ++ wordB op opsL ++ ⟨#[32]⟩ ++ fmtB id ++ ⟨#[32]⟩ ++ itoB er := (six_cat _ _ _ _ _ _).symm
  rw [htx]
  clear htx
  generalize hE3 : wordB kd kindsL = k3 at *
  generalize hE4 : wordB op opsL = k4 at *
  have HE3 := Lib.hid hE3; clear hE3
  have HE4 := Lib.hid hE4; clear hE4
  have hs1 : (fmtB st).size ≤ 20 := fmtB_len st h1.1 h1.2
  have hs2 : (itoB th).size ≤ 21 := itoB_len th h2.1 h2.2
  have hs3 : k3.size ≤ 6 := HE3.out ▸ wordB_len kindsL_len kd
  have hs4 : k4.size ≤ 6 := HE4.out ▸ wordB_len opsL_len op
  have hs5 : (fmtB id).size ≤ 20 := fmtB_len id h5.1 h5.2
  have hs6 : (itoB er).size ≤ 21 := itoB_len er h6.1 h6.2
  have kb := Blk.new w 118 #[.int .u64 st, .int .i64 th, .int .i64 kd, .int .i64 op, .int .u64 id, .int .i64 er]
  have hb0 := (RowKit.Below.refl w.heap.size w).alloc (Nat.le_refl _) (.cells #[.int .u64 st, .int .i64 th, .int .i64 kd, .int .i64 op, .int .u64 id, .int .i64 er] 118)
  obtain ⟨W, hW⟩ : ∃ W, W = w.alloc (.cells #[.int .u64 st, .int .i64 th, .int .i64 kd, .int .i64 op, .int .u64 id, .int .i64 er] 118) := ⟨_, rfl⟩
  rw [← hW] at kb hb0
  have HT := Lib.hid (ht.below hb0); clear ht
  have HW := Lib.hid hW; clear hW
  have HBW := Lib.hid hb0; clear hb0
  have hxc : ∀ w', RowKit.Below W.heap.size W w' → w'.cell? ⟨w.heap.size, 0, none⟩ = some (.int .u64 st) ∧ w'.cell? ⟨w.heap.size, 1, none⟩ = some (.int .i64 th) ∧ w'.cell? ⟨w.heap.size, 2, none⟩ = some (.int .i64 kd) ∧ w'.cell? ⟨w.heap.size, 3, none⟩ = some (.int .i64 op) ∧ w'.cell? ⟨w.heap.size, 4, none⟩ = some (.int .u64 id) ∧ w'.cell? ⟨w.heap.size, 5, none⟩ = some (.int .i64 er) := fun w' hw' => by
    have := kb.of_below hw'
    exact ⟨by rw [this.cell]; rfl, by rw [this.cell]; rfl, by rw [this.cell]; rfl, by rw [this.cell]; rfl, by rw [this.cell]; rfl, by rw [this.cell]; rfl⟩
  have HX := Lib.hid hxc; clear hxc kb
  go_enter Tryz.func73, Tryz.ntmps73
  go_wp2_with fail
  rw [← HW.out]
  have HC := Lib.hid (show RowKit.Below W.heap.size W W.drew from (RowKit.Below.refl _ _).drew)
  refine wp_region_mixS (fun w' => RowKit.Below W.heap.size W w') (.calm 0 (.calm 1 (.calm 4 (.calm 5 (.calm 9 (.calm 10 (.calm 15 (.calm 16 (.calm 21 (.calm 22 (.calm 26 (.calm 27 (.calm 2 (.calm 3 (.calm 6 (.calm 7 (.calm 8 (.fork 11 17 (.fork 12 17 (.calm 13 (.calm 14 (.sole 17 (.sole 18 (.calm 19 (.calm 20 (.calm 23 (.calm 24 (.calm 25 (.calm 28 (.calm 29 (.calm 30 .nil)))))))))))) (.sole 12 (.calm 13 (.calm 14 (.sole 18 (.calm 19 (.calm 20 (.calm 23 (.calm 24 (.calm 25 (.calm 28 (.calm 29 (.calm 30 .nil))))))))))))) (.sole 11 (.sole 12 (.calm 13 (.calm 14 (.sole 18 (.calm 19 (.calm 20 (.calm 23 (.calm 24 (.calm 25 (.calm 28 (.calm 29 (.calm 30 .nil))))))))))))))))))))))))))))))) (by kernel_rfl) (by kernel_rfl) HC.out ?_
  refine os_still rfl rfl (fun K hK => ?_); apply Exists.intro; refine ⟨fun w' hw' => ?_, ?_⟩; (obtain ⟨z0, z1, z2, z3, z4, z5⟩ := HX.out w' hw'; go_simp; first | done | exact ⟨rfl, rfl⟩ | exact rfl | (rw [if_neg (by (try simp only [ByteArray.size_append, sz1]); omega)]; exact ⟨rfl, rfl⟩)); (go_simp; refine hK _ (fun v1 hC1 hu1 => ?_); clear hK K)
  have HC := Lib.hid hC1; clear hC1
  clear hu1
  refine os_still rfl rfl (fun K hK => ?_); apply Exists.intro; refine ⟨fun w' hw' => ?_, ?_⟩; (obtain ⟨z0, z1, z2, z3, z4, z5⟩ := HX.out w' hw'; go_simp; first | done | exact ⟨rfl, rfl⟩ | exact rfl | (rw [if_neg (by (try simp only [ByteArray.size_append, sz1]); omega)]; exact ⟨rfl, rfl⟩)); (go_simp; refine hK _ (fun v2 hC1 hu1 => ?_); clear hK K)
  have HC := Lib.hid hC1; clear hC1
  clear hu1
  refine os_still rfl rfl (fun K hK => ?_); apply Exists.intro; refine ⟨fun w' hw' => ?_, ?_⟩; (obtain ⟨z0, z1, z2, z3, z4, z5⟩ := HX.out w' hw'; go_simp; first | done | exact ⟨rfl, rfl⟩ | exact rfl | (rw [if_neg (by (try simp only [ByteArray.size_append, sz1]); omega)]; exact ⟨rfl, rfl⟩)); (go_simp; refine hK _ (fun v3 hC1 hu1 => ?_); clear hK K)
  have HC := Lib.hid hC1; clear hC1
  clear hu1
  refine os_still rfl rfl (fun K hK => ?_); apply Exists.intro; refine ⟨fun w' hw' => ?_, ?_⟩; (obtain ⟨z0, z1, z2, z3, z4, z5⟩ := HX.out w' hw'; go_simp; first | done | exact ⟨rfl, rfl⟩ | exact rfl | (rw [if_neg (by (try simp only [ByteArray.size_append, sz1]); omega)]; exact ⟨rfl, rfl⟩)); (go_simp; refine hK _ (fun v4 hC1 hu1 => ?_); clear hK K)
  have HC := Lib.hid hC1; clear hC1
  clear hu1
  refine os_still rfl rfl (fun K hK => ?_); apply Exists.intro; refine ⟨fun w' hw' => ?_, ?_⟩; (obtain ⟨z0, z1, z2, z3, z4, z5⟩ := HX.out w' hw'; go_simp; first | done | exact ⟨rfl, rfl⟩ | exact rfl | (rw [if_neg (by (try simp only [ByteArray.size_append, sz1]); omega)]; exact ⟨rfl, rfl⟩)); (go_simp; refine hK _ (fun v5 hC1 hu1 => ?_); clear hK K)
  have HC := Lib.hid hC1; clear hC1
  clear hu1
  refine os_still rfl rfl (fun K hK => ?_); apply Exists.intro; refine ⟨fun w' hw' => ?_, ?_⟩; (obtain ⟨z0, z1, z2, z3, z4, z5⟩ := HX.out w' hw'; go_simp; first | done | exact ⟨rfl, rfl⟩ | exact rfl | (rw [if_neg (by (try simp only [ByteArray.size_append, sz1]); omega)]; exact ⟨rfl, rfl⟩)); (go_simp; refine hK _ (fun v6 hC1 hu1 => ?_); clear hK K)
  have HC := Lib.hid hC1; clear hC1
  clear hu1
  refine os_still rfl rfl (fun K hK => ?_); apply Exists.intro; refine ⟨fun w' hw' => ?_, ?_⟩; (obtain ⟨z0, z1, z2, z3, z4, z5⟩ := HX.out w' hw'; go_simp; first | done | exact ⟨rfl, rfl⟩ | exact rfl | (rw [if_neg (by (try simp only [ByteArray.size_append, sz1]); omega)]; exact ⟨rfl, rfl⟩)); (go_simp; refine hK _ (fun v7 hC1 hu1 => ?_); clear hK K)
  have HC := Lib.hid hC1; clear hC1
  clear hu1
  refine os_still rfl rfl (fun K hK => ?_); apply Exists.intro; refine ⟨fun w' hw' => ?_, ?_⟩; (obtain ⟨z0, z1, z2, z3, z4, z5⟩ := HX.out w' hw'; go_simp; first | done | exact ⟨rfl, rfl⟩ | exact rfl | (rw [if_neg (by (try simp only [ByteArray.size_append, sz1]); omega)]; exact ⟨rfl, rfl⟩)); (go_simp; refine hK _ (fun v8 hC1 hu1 => ?_); clear hK K)
  have HC := Lib.hid hC1; clear hC1
  clear hu1
  refine os_still rfl rfl (fun K hK => ?_); apply Exists.intro; refine ⟨fun w' hw' => ?_, ?_⟩; (obtain ⟨z0, z1, z2, z3, z4, z5⟩ := HX.out w' hw'; go_simp; first | done | exact ⟨rfl, rfl⟩ | exact rfl | (rw [if_neg (by (try simp only [ByteArray.size_append, sz1]); omega)]; exact ⟨rfl, rfl⟩)); (go_simp; refine hK _ (fun v9 hC1 hu1 => ?_); clear hK K)
  have HC := Lib.hid hC1; clear hC1
  clear hu1
  refine os_still rfl rfl (fun K hK => ?_); apply Exists.intro; refine ⟨fun w' hw' => ?_, ?_⟩; (obtain ⟨z0, z1, z2, z3, z4, z5⟩ := HX.out w' hw'; go_simp; first | done | exact ⟨rfl, rfl⟩ | exact rfl | (rw [if_neg (by (try simp only [ByteArray.size_append, sz1]); omega)]; exact ⟨rfl, rfl⟩)); (go_simp; refine hK _ (fun v10 hC1 hu1 => ?_); clear hK K)
  have HC := Lib.hid hC1; clear hC1
  clear hu1
  refine os_still rfl rfl (fun K hK => ?_); apply Exists.intro; refine ⟨fun w' hw' => ?_, ?_⟩; (obtain ⟨z0, z1, z2, z3, z4, z5⟩ := HX.out w' hw'; go_simp; first | done | exact ⟨rfl, rfl⟩ | exact rfl | (rw [if_neg (by (try simp only [ByteArray.size_append, sz1]); omega)]; exact ⟨rfl, rfl⟩)); (go_simp; refine hK _ (fun v11 hC1 hu1 => ?_); clear hK K)
  have HC := Lib.hid hC1; clear hC1
  clear hu1
  refine os_still rfl rfl (fun K hK => ?_); apply Exists.intro; refine ⟨fun w' hw' => ?_, ?_⟩; (obtain ⟨z0, z1, z2, z3, z4, z5⟩ := HX.out w' hw'; go_simp; first | done | exact ⟨rfl, rfl⟩ | exact rfl | (rw [if_neg (by (try simp only [ByteArray.size_append, sz1]); omega)]; exact ⟨rfl, rfl⟩)); (go_simp; refine hK _ (fun v12 hC1 hu1 => ?_); clear hK K)
  have HC := Lib.hid hC1; clear hC1
  clear hu1
  refine os_calm rfl rfl (fun K hK => ?_); apply Exists.intro; refine ⟨fun w' hw' => ?_, ?_⟩
  · go_simp
    refine (fmtU_ st h1.1 h1.2 w' (HT.out.below hw')).mono ?_
    rintro e w'' ⟨rfl, hb⟩
    exact ⟨rfl, below_step hw' hw'.size hb, hb⟩
  go_simp; refine hK _ (fun v13 hC1 hu1 => ?_); clear hK K
  have HC := Lib.hid hC1; clear hC1
  clear hu1
  refine os_still rfl rfl (fun K hK => ?_); apply Exists.intro; refine ⟨fun w' hw' => ?_, ?_⟩; (obtain ⟨z0, z1, z2, z3, z4, z5⟩ := HX.out w' hw'; go_simp; first | done | exact ⟨rfl, rfl⟩ | exact rfl | (rw [if_neg (by (try simp only [ByteArray.size_append, sz1]); omega)]; exact ⟨rfl, rfl⟩)); (go_simp; refine hK _ (fun v14 hC1 hu1 => ?_); clear hK K)
  have HC := Lib.hid hC1; clear hC1
  clear hu1
  refine os_calm rfl rfl (fun K hK => ?_); apply Exists.intro; refine ⟨fun w' hw' => ?_, ?_⟩
  · go_simp
    refine (itoa_ th h2.1 h2.2 w' (HT.out.below hw')).mono ?_
    rintro e w'' ⟨rfl, hb⟩
    exact ⟨rfl, below_step hw' hw'.size hb, hb⟩
  go_simp; refine hK _ (fun v15 hC1 hu1 => ?_); clear hK K
  have HC := Lib.hid hC1; clear hC1
  clear hu1
  refine os_still rfl rfl (fun K hK => ?_); apply Exists.intro; refine ⟨fun w' hw' => ?_, ?_⟩; (obtain ⟨z0, z1, z2, z3, z4, z5⟩ := HX.out w' hw'; go_simp; first | done | exact ⟨rfl, rfl⟩ | exact rfl | (rw [if_neg (by (try simp only [ByteArray.size_append, sz1]); omega)]; exact ⟨rfl, rfl⟩)); (go_simp; refine hK _ (fun v16 hC1 hu1 => ?_); clear hK K)
  have HC := Lib.hid hC1; clear hC1
  clear hu1
  refine os_still rfl rfl (fun K hK => ?_); apply Exists.intro; refine ⟨fun w' hw' => ?_, ?_⟩; (obtain ⟨z0, z1, z2, z3, z4, z5⟩ := HX.out w' hw'; go_simp; first | done | exact ⟨rfl, rfl⟩ | exact rfl | (rw [if_neg (by (try simp only [ByteArray.size_append, sz1]); omega)]; exact ⟨rfl, rfl⟩)); (go_simp; refine hK _ (fun v17 hC1 hu1 => ?_); clear hK K)
  have HC := Lib.hid hC1; clear hC1
  clear hu1
  refine os_fork rfl rfl rfl rfl (fun K hK => ?_) (fun K hK => ?_)
  · go_simp
    refine ⟨HC.out.alloc HC.out.size _, ?_⟩
    refine hK _ _ (fun v18 hC1 hu1 => ?_); clear hK K
    have HB11 := Lib.hid (Blk.of_below (Blk.new v17 9 #[.string ⟨#[99, 97, 108, 108]⟩, .string ⟨#[112, 111, 105, 110, 116]⟩, .string ⟨#[97, 110, 115, 119, 101, 114]⟩, .string ⟨#[114, 101, 116, 105, 114, 101]⟩]) hu1)
    have HC := Lib.hid hC1; clear hC1
    clear hu1
    refine os_fork rfl rfl rfl rfl (fun K hK => ?_) (fun K hK => ?_)
    · go_simp
      refine (ref09_kind_at kd _ v18 HB11.out).mono ?_
      rintro e w' ⟨rfl, hq⟩
      rw [hq]; clear hq w'
      refine ⟨_, rfl, HC.out, ?_⟩
      rw [HE3.out]
      go_simp
      refine hK _ _ (fun v19 hC1 hu1 => ?_); clear hK K
      have HC := Lib.hid hC1; clear hC1
      have HB11 := Lib.hid (HB11.out.of_below hu1)
      clear hu1
      refine os_still rfl rfl (fun K hK => ?_); apply Exists.intro; refine ⟨fun w' hw' => ?_, ?_⟩; (obtain ⟨z0, z1, z2, z3, z4, z5⟩ := HX.out w' hw'; go_simp; first | done | exact ⟨rfl, rfl⟩ | exact rfl | (rw [if_neg (by (try simp only [ByteArray.size_append, sz1]); omega)]; exact ⟨rfl, rfl⟩)); (go_simp; refine hK _ (fun v20 hC1 hu1 => ?_); clear hK K)
      have HC := Lib.hid hC1; clear hC1
      clear hu1
      refine os_still rfl rfl (fun K hK => ?_); apply Exists.intro; refine ⟨fun w' hw' => ?_, ?_⟩; (obtain ⟨z0, z1, z2, z3, z4, z5⟩ := HX.out w' hw'; go_simp; first | done | exact ⟨rfl, rfl⟩ | exact rfl | (rw [if_neg (by (try simp only [ByteArray.size_append, sz1]); omega)]; exact ⟨rfl, rfl⟩)); (go_simp; refine hK _ (fun v21 hC1 hu1 => ?_); clear hK K)
      have HC := Lib.hid hC1; clear hC1
      clear hu1
      refine os_sole rfl rfl (fun K hK => ?_)
      go_simp
      refine ⟨HC.out.alloc HC.out.size _, ?_⟩
      refine hK _ _ (fun v22 hC1 hu1 => ?_); clear hK K
      have HB17 := Lib.hid (Blk.of_below (Blk.new v21 9 #[.string ⟨#[103, 101, 116]⟩, .string ⟨#[112, 117, 116]⟩, .string ⟨#[101, 118, 105, 99, 116]⟩, .string ⟨#[99, 108, 111, 115, 101]⟩, .string ⟨#[104, 111, 117, 115, 101]⟩]) hu1)
      have HC := Lib.hid hC1; clear hC1
      clear hu1
      refine os_sole rfl rfl (fun K hK => ?_)
      go_simp
      refine (ref09_op_at op _ v22 HB17.out).mono ?_
      rintro e w' ⟨rfl, hq⟩
      rw [hq]; clear hq w'
      refine ⟨_, rfl, HC.out, ?_⟩
      rw [HE4.out]
      go_simp
      refine hK _ _ (fun v23 hC1 hu1 => ?_); clear hK K
      have HC := Lib.hid hC1; clear hC1
      have HB17 := Lib.hid (HB17.out.of_below hu1)
      clear hu1
      refine os_still rfl rfl (fun K hK => ?_); apply Exists.intro; refine ⟨fun w' hw' => ?_, ?_⟩; (obtain ⟨z0, z1, z2, z3, z4, z5⟩ := HX.out w' hw'; go_simp; first | done | exact ⟨rfl, rfl⟩ | exact rfl | (rw [if_neg (by (try simp only [ByteArray.size_append, sz1]); omega)]; exact ⟨rfl, rfl⟩)); (go_simp; refine hK _ (fun v24 hC1 hu1 => ?_); clear hK K)
      have HC := Lib.hid hC1; clear hC1
      clear hu1
      refine os_still rfl rfl (fun K hK => ?_); apply Exists.intro; refine ⟨fun w' hw' => ?_, ?_⟩; (obtain ⟨z0, z1, z2, z3, z4, z5⟩ := HX.out w' hw'; go_simp; first | done | exact ⟨rfl, rfl⟩ | exact rfl | (rw [if_neg (by (try simp only [ByteArray.size_append, sz1]); omega)]; exact ⟨rfl, rfl⟩)); (go_simp; refine hK _ (fun v25 hC1 hu1 => ?_); clear hK K)
      have HC := Lib.hid hC1; clear hC1
      clear hu1
      refine os_calm rfl rfl (fun K hK => ?_); apply Exists.intro; refine ⟨fun w' hw' => ?_, ?_⟩
      · go_simp
        refine (fmtU_ id h5.1 h5.2 w' (HT.out.below hw')).mono ?_
        rintro e w'' ⟨rfl, hb⟩
        exact ⟨rfl, below_step hw' hw'.size hb, hb⟩
      go_simp; refine hK _ (fun v26 hC1 hu1 => ?_); clear hK K
      have HC := Lib.hid hC1; clear hC1
      clear hu1
      refine os_still rfl rfl (fun K hK => ?_); apply Exists.intro; refine ⟨fun w' hw' => ?_, ?_⟩; (obtain ⟨z0, z1, z2, z3, z4, z5⟩ := HX.out w' hw'; go_simp; first | done | exact ⟨rfl, rfl⟩ | exact rfl | (rw [if_neg (by (try simp only [ByteArray.size_append, sz1]); omega)]; exact ⟨rfl, rfl⟩)); (go_simp; refine hK _ (fun v27 hC1 hu1 => ?_); clear hK K)
      have HC := Lib.hid hC1; clear hC1
      clear hu1
      refine os_still rfl rfl (fun K hK => ?_); apply Exists.intro; refine ⟨fun w' hw' => ?_, ?_⟩; (obtain ⟨z0, z1, z2, z3, z4, z5⟩ := HX.out w' hw'; go_simp; first | done | exact ⟨rfl, rfl⟩ | exact rfl | (rw [if_neg (by (try simp only [ByteArray.size_append, sz1]); omega)]; exact ⟨rfl, rfl⟩)); (go_simp; refine hK _ (fun v28 hC1 hu1 => ?_); clear hK K)
      have HC := Lib.hid hC1; clear hC1
      clear hu1
      refine os_calm rfl rfl (fun K hK => ?_); apply Exists.intro; refine ⟨fun w' hw' => ?_, ?_⟩
      · go_simp
        refine (itoa_ er h6.1 h6.2 w' (HT.out.below hw')).mono ?_
        rintro e w'' ⟨rfl, hb⟩
        exact ⟨rfl, below_step hw' hw'.size hb, hb⟩
      go_simp; refine hK _ (fun v29 hC1 hu1 => ?_); clear hK K
      have HC := Lib.hid hC1; clear hC1
      clear hu1
      refine os_still rfl rfl (fun K hK => ?_); apply Exists.intro; refine ⟨fun w' hw' => ?_, ?_⟩; (obtain ⟨z0, z1, z2, z3, z4, z5⟩ := HX.out w' hw'; go_simp; first | done | exact ⟨rfl, rfl⟩ | exact rfl | (rw [if_neg (by (try simp only [ByteArray.size_append, sz1]); omega)]; exact ⟨rfl, rfl⟩)); (go_simp; refine hK _ (fun v30 hC1 hu1 => ?_); clear hK K)
      have HC := Lib.hid hC1; clear hC1
      clear hu1
      refine os_still rfl rfl (fun K hK => ?_); apply Exists.intro; refine ⟨fun w' hw' => ?_, ?_⟩; (obtain ⟨z0, z1, z2, z3, z4, z5⟩ := HX.out w' hw'; go_simp; first | done | exact ⟨rfl, rfl⟩ | exact rfl | (rw [if_neg (by (try simp only [ByteArray.size_append, sz1]); omega)]; exact ⟨rfl, rfl⟩)); (go_simp; refine hK _ (fun v31 hC1 hu1 => ?_); clear hK K)
      have HC := Lib.hid hC1; clear hC1
      clear hu1
      refine os_nil ?_
      intro hCx
      go_wp2
      go_ret
      exact ⟨rfl, below_step HBW.out HBW.out.size HC.out⟩
    · go_simp
      refine ⟨HC.out.alloc HC.out.size _, ?_⟩
      refine hK _ _ (fun v32 hC1 hu1 => ?_); clear hK K
      have HB17 := Lib.hid (Blk.of_below (Blk.new v18 9 #[.string ⟨#[103, 101, 116]⟩, .string ⟨#[112, 117, 116]⟩, .string ⟨#[101, 118, 105, 99, 116]⟩, .string ⟨#[99, 108, 111, 115, 101]⟩, .string ⟨#[104, 111, 117, 115, 101]⟩]) hu1)
      have HC := Lib.hid hC1; clear hC1
      have HB11 := Lib.hid ((HB11.out.alloc _).of_below hu1)
      clear hu1
      refine os_sole rfl rfl (fun K hK => ?_)
      go_simp
      refine (ref09_kind_at kd _ v32 HB11.out).mono ?_
      rintro e w' ⟨rfl, hq⟩
      rw [hq]; clear hq w'
      refine ⟨_, rfl, HC.out, ?_⟩
      rw [HE3.out]
      go_simp
      refine hK _ _ (fun v33 hC1 hu1 => ?_); clear hK K
      have HC := Lib.hid hC1; clear hC1
      have HB11 := Lib.hid (HB11.out.of_below hu1)
      have HB17 := Lib.hid (HB17.out.of_below hu1)
      clear hu1
      refine os_still rfl rfl (fun K hK => ?_); apply Exists.intro; refine ⟨fun w' hw' => ?_, ?_⟩; (obtain ⟨z0, z1, z2, z3, z4, z5⟩ := HX.out w' hw'; go_simp; first | done | exact ⟨rfl, rfl⟩ | exact rfl | (rw [if_neg (by (try simp only [ByteArray.size_append, sz1]); omega)]; exact ⟨rfl, rfl⟩)); (go_simp; refine hK _ (fun v34 hC1 hu1 => ?_); clear hK K)
      have HC := Lib.hid hC1; clear hC1
      have HB17 := Lib.hid (HB17.out.of_below hu1)
      clear hu1
      refine os_still rfl rfl (fun K hK => ?_); apply Exists.intro; refine ⟨fun w' hw' => ?_, ?_⟩; (obtain ⟨z0, z1, z2, z3, z4, z5⟩ := HX.out w' hw'; go_simp; first | done | exact ⟨rfl, rfl⟩ | exact rfl | (rw [if_neg (by (try simp only [ByteArray.size_append, sz1]); omega)]; exact ⟨rfl, rfl⟩)); (go_simp; refine hK _ (fun v35 hC1 hu1 => ?_); clear hK K)
      have HC := Lib.hid hC1; clear hC1
      have HB17 := Lib.hid (HB17.out.of_below hu1)
      clear hu1
      refine os_sole rfl rfl (fun K hK => ?_)
      go_simp
      refine (ref09_op_at op _ v35 HB17.out).mono ?_
      rintro e w' ⟨rfl, hq⟩
      rw [hq]; clear hq w'
      refine ⟨_, rfl, HC.out, ?_⟩
      rw [HE4.out]
      go_simp
      refine hK _ _ (fun v36 hC1 hu1 => ?_); clear hK K
      have HC := Lib.hid hC1; clear hC1
      have HB17 := Lib.hid (HB17.out.of_below hu1)
      clear hu1
      refine os_still rfl rfl (fun K hK => ?_); apply Exists.intro; refine ⟨fun w' hw' => ?_, ?_⟩; (obtain ⟨z0, z1, z2, z3, z4, z5⟩ := HX.out w' hw'; go_simp; first | done | exact ⟨rfl, rfl⟩ | exact rfl | (rw [if_neg (by (try simp only [ByteArray.size_append, sz1]); omega)]; exact ⟨rfl, rfl⟩)); (go_simp; refine hK _ (fun v37 hC1 hu1 => ?_); clear hK K)
      have HC := Lib.hid hC1; clear hC1
      clear hu1
      refine os_still rfl rfl (fun K hK => ?_); apply Exists.intro; refine ⟨fun w' hw' => ?_, ?_⟩; (obtain ⟨z0, z1, z2, z3, z4, z5⟩ := HX.out w' hw'; go_simp; first | done | exact ⟨rfl, rfl⟩ | exact rfl | (rw [if_neg (by (try simp only [ByteArray.size_append, sz1]); omega)]; exact ⟨rfl, rfl⟩)); (go_simp; refine hK _ (fun v38 hC1 hu1 => ?_); clear hK K)
      have HC := Lib.hid hC1; clear hC1
      clear hu1
      refine os_calm rfl rfl (fun K hK => ?_); apply Exists.intro; refine ⟨fun w' hw' => ?_, ?_⟩
      · go_simp
        refine (fmtU_ id h5.1 h5.2 w' (HT.out.below hw')).mono ?_
        rintro e w'' ⟨rfl, hb⟩
        exact ⟨rfl, below_step hw' hw'.size hb, hb⟩
      go_simp; refine hK _ (fun v39 hC1 hu1 => ?_); clear hK K
      have HC := Lib.hid hC1; clear hC1
      clear hu1
      refine os_still rfl rfl (fun K hK => ?_); apply Exists.intro; refine ⟨fun w' hw' => ?_, ?_⟩; (obtain ⟨z0, z1, z2, z3, z4, z5⟩ := HX.out w' hw'; go_simp; first | done | exact ⟨rfl, rfl⟩ | exact rfl | (rw [if_neg (by (try simp only [ByteArray.size_append, sz1]); omega)]; exact ⟨rfl, rfl⟩)); (go_simp; refine hK _ (fun v40 hC1 hu1 => ?_); clear hK K)
      have HC := Lib.hid hC1; clear hC1
      clear hu1
      refine os_still rfl rfl (fun K hK => ?_); apply Exists.intro; refine ⟨fun w' hw' => ?_, ?_⟩; (obtain ⟨z0, z1, z2, z3, z4, z5⟩ := HX.out w' hw'; go_simp; first | done | exact ⟨rfl, rfl⟩ | exact rfl | (rw [if_neg (by (try simp only [ByteArray.size_append, sz1]); omega)]; exact ⟨rfl, rfl⟩)); (go_simp; refine hK _ (fun v41 hC1 hu1 => ?_); clear hK K)
      have HC := Lib.hid hC1; clear hC1
      clear hu1
      refine os_calm rfl rfl (fun K hK => ?_); apply Exists.intro; refine ⟨fun w' hw' => ?_, ?_⟩
      · go_simp
        refine (itoa_ er h6.1 h6.2 w' (HT.out.below hw')).mono ?_
        rintro e w'' ⟨rfl, hb⟩
        exact ⟨rfl, below_step hw' hw'.size hb, hb⟩
      go_simp; refine hK _ (fun v42 hC1 hu1 => ?_); clear hK K
      have HC := Lib.hid hC1; clear hC1
      clear hu1
      refine os_still rfl rfl (fun K hK => ?_); apply Exists.intro; refine ⟨fun w' hw' => ?_, ?_⟩; (obtain ⟨z0, z1, z2, z3, z4, z5⟩ := HX.out w' hw'; go_simp; first | done | exact ⟨rfl, rfl⟩ | exact rfl | (rw [if_neg (by (try simp only [ByteArray.size_append, sz1]); omega)]; exact ⟨rfl, rfl⟩)); (go_simp; refine hK _ (fun v43 hC1 hu1 => ?_); clear hK K)
      have HC := Lib.hid hC1; clear hC1
      clear hu1
      refine os_still rfl rfl (fun K hK => ?_); apply Exists.intro; refine ⟨fun w' hw' => ?_, ?_⟩; (obtain ⟨z0, z1, z2, z3, z4, z5⟩ := HX.out w' hw'; go_simp; first | done | exact ⟨rfl, rfl⟩ | exact rfl | (rw [if_neg (by (try simp only [ByteArray.size_append, sz1]); omega)]; exact ⟨rfl, rfl⟩)); (go_simp; refine hK _ (fun v44 hC1 hu1 => ?_); clear hK K)
      have HC := Lib.hid hC1; clear hC1
      clear hu1
      refine os_nil ?_
      intro hCx
      go_wp2
      go_ret
      exact ⟨rfl, below_step HBW.out HBW.out.size HC.out⟩
  · go_simp
    refine ⟨HC.out.alloc HC.out.size _, ?_⟩
    refine hK _ _ (fun v45 hC1 hu1 => ?_); clear hK K
    have HB17 := Lib.hid (Blk.of_below (Blk.new v17 9 #[.string ⟨#[103, 101, 116]⟩, .string ⟨#[112, 117, 116]⟩, .string ⟨#[101, 118, 105, 99, 116]⟩, .string ⟨#[99, 108, 111, 115, 101]⟩, .string ⟨#[104, 111, 117, 115, 101]⟩]) hu1)
    have HC := Lib.hid hC1; clear hC1
    clear hu1
    refine os_sole rfl rfl (fun K hK => ?_)
    go_simp
    refine ⟨HC.out.alloc HC.out.size _, ?_⟩
    refine hK _ _ (fun v46 hC1 hu1 => ?_); clear hK K
    have HB11 := Lib.hid (Blk.of_below (Blk.new v45 9 #[.string ⟨#[99, 97, 108, 108]⟩, .string ⟨#[112, 111, 105, 110, 116]⟩, .string ⟨#[97, 110, 115, 119, 101, 114]⟩, .string ⟨#[114, 101, 116, 105, 114, 101]⟩]) hu1)
    have HC := Lib.hid hC1; clear hC1
    have HB17 := Lib.hid ((HB17.out.alloc _).of_below hu1)
    clear hu1
    refine os_sole rfl rfl (fun K hK => ?_)
    go_simp
    refine (ref09_kind_at kd _ v46 HB11.out).mono ?_
    rintro e w' ⟨rfl, hq⟩
    rw [hq]; clear hq w'
    refine ⟨_, rfl, HC.out, ?_⟩
    rw [HE3.out]
    go_simp
    refine hK _ _ (fun v47 hC1 hu1 => ?_); clear hK K
    have HC := Lib.hid hC1; clear hC1
    have HB11 := Lib.hid (HB11.out.of_below hu1)
    have HB17 := Lib.hid (HB17.out.of_below hu1)
    clear hu1
    refine os_still rfl rfl (fun K hK => ?_); apply Exists.intro; refine ⟨fun w' hw' => ?_, ?_⟩; (obtain ⟨z0, z1, z2, z3, z4, z5⟩ := HX.out w' hw'; go_simp; first | done | exact ⟨rfl, rfl⟩ | exact rfl | (rw [if_neg (by (try simp only [ByteArray.size_append, sz1]); omega)]; exact ⟨rfl, rfl⟩)); (go_simp; refine hK _ (fun v48 hC1 hu1 => ?_); clear hK K)
    have HC := Lib.hid hC1; clear hC1
    have HB17 := Lib.hid (HB17.out.of_below hu1)
    clear hu1
    refine os_still rfl rfl (fun K hK => ?_); apply Exists.intro; refine ⟨fun w' hw' => ?_, ?_⟩; (obtain ⟨z0, z1, z2, z3, z4, z5⟩ := HX.out w' hw'; go_simp; first | done | exact ⟨rfl, rfl⟩ | exact rfl | (rw [if_neg (by (try simp only [ByteArray.size_append, sz1]); omega)]; exact ⟨rfl, rfl⟩)); (go_simp; refine hK _ (fun v49 hC1 hu1 => ?_); clear hK K)
    have HC := Lib.hid hC1; clear hC1
    have HB17 := Lib.hid (HB17.out.of_below hu1)
    clear hu1
    refine os_sole rfl rfl (fun K hK => ?_)
    go_simp
    refine (ref09_op_at op _ v49 HB17.out).mono ?_
    rintro e w' ⟨rfl, hq⟩
    rw [hq]; clear hq w'
    refine ⟨_, rfl, HC.out, ?_⟩
    rw [HE4.out]
    go_simp
    refine hK _ _ (fun v50 hC1 hu1 => ?_); clear hK K
    have HC := Lib.hid hC1; clear hC1
    have HB17 := Lib.hid (HB17.out.of_below hu1)
    clear hu1
    refine os_still rfl rfl (fun K hK => ?_); apply Exists.intro; refine ⟨fun w' hw' => ?_, ?_⟩; (obtain ⟨z0, z1, z2, z3, z4, z5⟩ := HX.out w' hw'; go_simp; first | done | exact ⟨rfl, rfl⟩ | exact rfl | (rw [if_neg (by (try simp only [ByteArray.size_append, sz1]); omega)]; exact ⟨rfl, rfl⟩)); (go_simp; refine hK _ (fun v51 hC1 hu1 => ?_); clear hK K)
    have HC := Lib.hid hC1; clear hC1
    clear hu1
    refine os_still rfl rfl (fun K hK => ?_); apply Exists.intro; refine ⟨fun w' hw' => ?_, ?_⟩; (obtain ⟨z0, z1, z2, z3, z4, z5⟩ := HX.out w' hw'; go_simp; first | done | exact ⟨rfl, rfl⟩ | exact rfl | (rw [if_neg (by (try simp only [ByteArray.size_append, sz1]); omega)]; exact ⟨rfl, rfl⟩)); (go_simp; refine hK _ (fun v52 hC1 hu1 => ?_); clear hK K)
    have HC := Lib.hid hC1; clear hC1
    clear hu1
    refine os_calm rfl rfl (fun K hK => ?_); apply Exists.intro; refine ⟨fun w' hw' => ?_, ?_⟩
    · go_simp
      refine (fmtU_ id h5.1 h5.2 w' (HT.out.below hw')).mono ?_
      rintro e w'' ⟨rfl, hb⟩
      exact ⟨rfl, below_step hw' hw'.size hb, hb⟩
    go_simp; refine hK _ (fun v53 hC1 hu1 => ?_); clear hK K
    have HC := Lib.hid hC1; clear hC1
    clear hu1
    refine os_still rfl rfl (fun K hK => ?_); apply Exists.intro; refine ⟨fun w' hw' => ?_, ?_⟩; (obtain ⟨z0, z1, z2, z3, z4, z5⟩ := HX.out w' hw'; go_simp; first | done | exact ⟨rfl, rfl⟩ | exact rfl | (rw [if_neg (by (try simp only [ByteArray.size_append, sz1]); omega)]; exact ⟨rfl, rfl⟩)); (go_simp; refine hK _ (fun v54 hC1 hu1 => ?_); clear hK K)
    have HC := Lib.hid hC1; clear hC1
    clear hu1
    refine os_still rfl rfl (fun K hK => ?_); apply Exists.intro; refine ⟨fun w' hw' => ?_, ?_⟩; (obtain ⟨z0, z1, z2, z3, z4, z5⟩ := HX.out w' hw'; go_simp; first | done | exact ⟨rfl, rfl⟩ | exact rfl | (rw [if_neg (by (try simp only [ByteArray.size_append, sz1]); omega)]; exact ⟨rfl, rfl⟩)); (go_simp; refine hK _ (fun v55 hC1 hu1 => ?_); clear hK K)
    have HC := Lib.hid hC1; clear hC1
    clear hu1
    refine os_calm rfl rfl (fun K hK => ?_); apply Exists.intro; refine ⟨fun w' hw' => ?_, ?_⟩
    · go_simp
      refine (itoa_ er h6.1 h6.2 w' (HT.out.below hw')).mono ?_
      rintro e w'' ⟨rfl, hb⟩
      exact ⟨rfl, below_step hw' hw'.size hb, hb⟩
    go_simp; refine hK _ (fun v56 hC1 hu1 => ?_); clear hK K
    have HC := Lib.hid hC1; clear hC1
    clear hu1
    refine os_still rfl rfl (fun K hK => ?_); apply Exists.intro; refine ⟨fun w' hw' => ?_, ?_⟩; (obtain ⟨z0, z1, z2, z3, z4, z5⟩ := HX.out w' hw'; go_simp; first | done | exact ⟨rfl, rfl⟩ | exact rfl | (rw [if_neg (by (try simp only [ByteArray.size_append, sz1]); omega)]; exact ⟨rfl, rfl⟩)); (go_simp; refine hK _ (fun v57 hC1 hu1 => ?_); clear hK K)
    have HC := Lib.hid hC1; clear hC1
    clear hu1
    refine os_still rfl rfl (fun K hK => ?_); apply Exists.intro; refine ⟨fun w' hw' => ?_, ?_⟩; (obtain ⟨z0, z1, z2, z3, z4, z5⟩ := HX.out w' hw'; go_simp; first | done | exact ⟨rfl, rfl⟩ | exact rfl | (rw [if_neg (by (try simp only [ByteArray.size_append, sz1]); omega)]; exact ⟨rfl, rfl⟩)); (go_simp; refine hK _ (fun v58 hC1 hu1 => ?_); clear hK K)
    have HC := Lib.hid hC1; clear hC1
    clear hu1
    refine os_nil ?_
    intro hCx
    go_wp2
    go_ret
    exact ⟨rfl, below_step HBW.out HBW.out.size HC.out⟩

end Go.Proofs.YtonfaojmphidpaaGreatDoor
