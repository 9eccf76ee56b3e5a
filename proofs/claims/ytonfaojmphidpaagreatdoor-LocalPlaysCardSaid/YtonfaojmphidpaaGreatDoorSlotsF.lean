/- Chapter 11's example: awake; SlotsNone. -/
import Derived.Test.YtonfaojmphidpaaGreatDoorSlotsE
import Derived.Test.YtonfaojmphidpaaGreatDoorFacD
namespace Go.Proofs.YtonfaojmphidpaaGreatDoor
open Go.RowKit
set_option linter.unusedVariables false
set_option linter.unusedSimpArgs false

theorem SkTo.below {B0 : Nat} {w0 w w' : World} {B g : Nat} {A : Option Addr} {c : Nat} {L L' : List Sv} (h : Sk w B g A c L) (ht : SkTo w B g A L.length c L' w') (hB : RowKit.Below B0 w0 w) (hg : B0 ≤ g) (hb : B0 ≤ B) (hs : B0 ≤ w.heap.size) : RowKit.Below B0 w0 w' := by
  obtain ⟨A', c', _, hgr, _⟩ := ht
  refine hgr.below hB (fun k _ hk => ?_) hs
  rcases hk with rfl | hk
  · exact hg
  · have := own_base h.row k hk; omega
theorem Sk.new (w : World) : Sk (w.alloc (.cells #[.slice none 0 0] 141)) w.heap.size w.heap.size none 0 [] := ⟨Blk.new _ _ _, World.ownsRow_nil _ _ _ _, by simp⟩

set_option maxRecDepth 100000 in
set_option maxHeartbeats 2000000 in
theorem law11_awake (w : World) :
    Calls Tryz.prog 28 #[] w fun e w' => e = .returned (.bool true) ∧ RowKit.Below w.heap.size w w' := by
  go_enter Tryz.func28, Tryz.ntmps28
  go_wp2_with fail
  refine (slots_New _).mono ?_
  rintro e w1 ⟨rfl, rfl⟩
  have s1 := Sk.new w
  have b1 := (RowKit.Below.refl w.heap.size w).alloc (Nat.le_refl _) (.cells #[.slice none 0 0] 141)
  have p1 := slots_Park_new w.heap.size w.heap.size none 0 [] 2 9 _ s1 (by simp) (by decide) (by decide)
  have P1 := Lib.hid p1; clear p1
  have S1 := Lib.hid s1; clear s1
  have B1 := Lib.hid b1; clear b1
  go_wp2_with fail
  refine P1.out.mono ?_
  rintro e w2 ⟨rfl, hto⟩
  have b2 := hto.below S1.out B1.out (Nat.le_refl _) (Nat.le_refl _) B1.out.size
  obtain ⟨A2, c2, s2, -, -⟩ := hto
  simp only [List.nil_append] at s2
  have p2 := slots_Park_new w.heap.size w.heap.size A2 c2 [⟨2, 9, 0⟩] 1 5 w2 s2 b2.size (by decide) (by decide)
  have P2 := Lib.hid p2; clear p2
  have S2 := Lib.hid s2; clear s2
  have B2 := Lib.hid b2; clear b2 P1
  go_wp2_with fail
  refine P2.out.mono ?_
  rintro e w3 ⟨rfl, hto⟩
  have b3 := hto.below S2.out B2.out (Nat.le_refl _) (Nat.le_refl _) B2.out.size
  obtain ⟨A3, c3, s3, -, -⟩ := hto
  simp only [List.cons_append, List.nil_append] at s3
  have p3 := slots_Fill_yes w.heap.size w.heap.size A3 c3 [⟨2, 9, 0⟩, ⟨1, 5, 0⟩] 7 0 ⟨2, 9, 0⟩ w3 s3 (by decide) rfl (by decide)
  have P3 := Lib.hid p3; clear p3
  have S3 := Lib.hid s3; clear s3
  have B3 := Lib.hid b3; clear b3 P2
  go_wp2_with fail
  refine P3.out.mono ?_
  rintro e w4 ⟨rfl, -, hg4⟩
  have B4 := Lib.hid (hg4.below B3.out (fun k _ hk => own_base S3.out.row k hk) B3.out.size); clear hg4 P3
  go_wp2_with fail
  refine (law10_Awake _).mono ?_
  rintro e w5 ⟨rfl, hb5⟩
  have B5 := Lib.hid (below_step B4.out B4.out.size hb5); clear hb5
  go_wp2_with fail
  go_ret
  exact ⟨rfl, B5.out⟩
set_option maxHeartbeats 400000 in
theorem law11_Awake (w : World) :
    Calls Tryz.prog 88 #[] w fun e w' => e = .returned (.bool true) ∧ RowKit.Below w.heap.size w w' := by
  go_enter Tryz.func88, Tryz.ntmps88
  go_wp2_with (first | (go_at_call 28; refine (law11_awake _).mono ?_; rintro e w' ⟨rfl, hb⟩))
  go_ret
  exact ⟨rfl, hb⟩

/-! nil slots -/
set_option maxHeartbeats 400000 in
theorem slots_All_nil (w : World) : Calls Tryz.prog 33 #[.pointer none] w fun e w' => e = .returned (.slice none 0 0) ∧ w = w' := by
  go_enter Tryz.func33, Tryz.ntmps33
  go_wp2
  go_ret
  exact ⟨rfl, rfl⟩
set_option maxHeartbeats 400000 in
theorem slots_Fill_nil (id : Int) (w : World) : Calls Tryz.prog 31 #[.pointer none, .int .u64 id] w fun e w' => e = .returned (.tuple #[.int .i64 0, .bool false]) ∧ RowKit.Below w.heap.size w w' := by
  have eg : ∀ args w, (callFunc 86 args).run Tryz.prog w = .ok (.enter 86 args) w := enters_of Tryz.func86 (by kernel_rfl) rfl
  have hix := slices_IndexFunc_slot (fun x => x.id == 0) 86 #[] eg none 0 [] w (Rd.nil_ _ _) (by decide) (fun W x hW => (fill1 W x).mono fun e w' ⟨he, hb'⟩ => ⟨he, below_step hW hW.size hb'⟩)
  rw [show fidx (fun x : Sv => x.id == 0) [] = -1 from rfl] at hix
  have HIX := Lib.hid hix; clear hix
  go_enter Tryz.func31, Tryz.ntmps31
  go_wp2_with (go_at_call 33; refine (slots_All_nil _).mono ?_; rintro e w' ⟨rfl, rfl⟩)
  refine HIX.out.mono ?_
  rintro e w2 ⟨rfl, hb⟩
  go_wp2_with fail
  go_ret2
  exact ⟨rfl, hb⟩
set_option maxHeartbeats 400000 in
theorem slots_index_nil (th : Int) (w : World) : Calls Tryz.prog 84 #[.pointer none, .int .i64 th] w fun e w' => e = .returned (.int .i64 (-1)) ∧ RowKit.Below w.heap.size w w' := by
  have eg : ∀ args w, (callFunc 103 args).run Tryz.prog w = .ok (.enter 103 args) w := enters_of Tryz.func103 (by kernel_rfl) rfl
  have hal := (RowKit.Below.refl w.heap.size w).alloc (Nat.le_refl _) (.cells #[.int .i64 th] 3)
  have hk := Blk.new w 3 #[.int .i64 th]
  have hix := slices_IndexFunc_slot (fun x => x.th == th) 103 #[.pointer (some ⟨w.heap.size, 0, none⟩)] eg none 0 [] (w.alloc (.cells #[.int .i64 th] 3)) (Rd.nil_ _ _) (by decide) (fun W x hW => by
    have hkW := hk.of_below hW
    refine (index1 th w.heap.size W x hkW.lt (by rw [hkW.cell]; rfl)).mono ?_
    rintro e w' ⟨he, hb'⟩
    exact ⟨he, below_step hW hW.size hb'⟩)
  rw [show fidx (fun x : Sv => x.th == th) [] = -1 from rfl] at hix
  have HIX := Lib.hid hix; clear hix
  have HAL := Lib.hid hal; clear hal hk
  go_enter Tryz.func84, Tryz.ntmps84
  go_wp2_with (go_at_call 33; refine (slots_All_nil _).mono ?_; rintro e w' ⟨rfl, rfl⟩)
  refine HIX.out.mono ?_
  rintro e w2 ⟨rfl, hb⟩
  go_wp2_with fail
  go_ret
  exact ⟨rfl, below_step HAL.out HAL.out.size hb⟩
set_option maxHeartbeats 1000000 in
theorem slots_Of_nil (th : Int) (w : World) : Calls Tryz.prog 39 #[.pointer none, .int .i64 th] w fun e w' => e = .returned (.tuple #[.agg #[.int .i64 0, .int .u64 0, .int .u64 0], .bool false]) ∧ RowKit.Below w.heap.size w w' := by
  have hal := (RowKit.Below.refl w.heap.size w).alloc (Nat.le_refl _) (.cells #[.int .i64 0, .int .u64 0, .int .u64 0] 75)
  have hk := Blk.new w 75 #[.int .i64 0, .int .u64 0, .int .u64 0]
  have HAL := Lib.hid hal; clear hal
  have HK := Lib.hid hk; clear hk
  go_enter Tryz.func39, Tryz.ntmps39
  go_wp2_with fail
  refine (slots_index_nil _ _).mono ?_
  rintro e w2 ⟨rfl, hb⟩
  have k2 := HK.out.of_below hb
  have c0 := k2.cell 0
  have c1 := k2.cell 1
  have c2 := k2.cell 2
  have f0 := k2.frozen 0
  have f1 := k2.frozen 1
  have f2 := k2.frozen 2
  have hlt := k2.lt
  simp only [List.getElem?_toArray, List.getElem?_cons_zero, List.getElem?_cons_succ] at c0 c1 c2
  have HB := Lib.hid (below_step HAL.out HAL.out.size hb); clear hb k2
  go_wp2_with fail
  refine bodyPost_ret (v := .tuple #[.agg #[.int .i64 0, .int .u64 0, .int .u64 0], .bool false]) (by simp [results, Tryz.results39, go_sem, c0, c1, c2]) rfl ⟨rfl, ?_⟩
  exact ((HB.out.setCell (Nat.le_refl _) _).setCell (Nat.le_refl _) _).setCell (Nat.le_refl _) _
set_option maxHeartbeats 1000000 in
theorem slots_Take_nil (th : Int) (w : World) : Calls Tryz.prog 32 #[.pointer none, .int .i64 th] w fun e w' => e = .returned (.tuple #[.int .u64 0, .bool false]) ∧ RowKit.Below w.heap.size w w' := by
  go_enter Tryz.func32, Tryz.ntmps32
  go_wp2_with fail
  refine (slots_Of_nil _ _).mono ?_
  rintro e w2 ⟨rfl, hb⟩
  have HB := Lib.hid hb; clear hb
  go_wp2_with fail
  go_ret2
  exact ⟨rfl, HB.out.alloc HB.out.size _⟩
set_option maxHeartbeats 400000 in
theorem slots_Waiting_nil (w : World) : Calls Tryz.prog 34 #[.pointer none] w fun e w' => e = .returned (.int .i64 0) ∧ w = w' := by
  go_enter Tryz.func34, Tryz.ntmps34
  go_wp2_with (go_at_call 33; refine (slots_All_nil _).mono ?_; rintro e w' ⟨rfl, rfl⟩)
  refine wp_loop_rounds 1 ?_
  rw [rounds_succ]
  go_wp2
  go_ret
  exact ⟨rfl, rfl⟩
set_option maxRecDepth 100000 in
set_option maxHeartbeats 2000000 in
theorem law_SlotsNone (w : World) :
    Calls Tryz.prog 8 #[] w fun e w' => e = .returned (.bool true) ∧ RowKit.Below w.heap.size w w' := by
  go_enter Tryz.func8, Tryz.ntmps8
  go_wp2_with fail
  refine (slots_Fill_nil _ _).mono ?_
  rintro e w1 ⟨rfl, hb1⟩
  have B1 := Lib.hid hb1; clear hb1
  go_wp2_with fail
  refine (slots_Take_nil _ _).mono ?_
  rintro e w2 ⟨rfl, hb2⟩
  have B2 := Lib.hid (below_step B1.out B1.out.size hb2); clear hb2
  go_wp2_with fail
  refine (slots_Of_nil _ _).mono ?_
  rintro e w3 ⟨rfl, hb3⟩
  have B3 := Lib.hid (below_step B2.out B2.out.size hb3); clear hb3
  go_wp2_with fail
  refine (law11_awake _).mono ?_
  rintro e w4 ⟨rfl, hb4⟩
  have B4 := Lib.hid (below_step (B3.out.alloc B3.out.size _) (B3.out.alloc B3.out.size _).size hb4); clear hb4
  go_wp2_with (first
    | (go_at_call 34; refine (slots_Waiting_nil _).mono ?_; rintro e w' ⟨rfl, rfl⟩)
    | (go_at_call 33; refine (slots_All_nil _).mono ?_; rintro e w' ⟨rfl, rfl⟩)
    | go_in)
  go_ret
  exact ⟨rfl, B4.out⟩
end Go.Proofs.YtonfaojmphidpaaGreatDoor
