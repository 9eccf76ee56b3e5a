/- Chapter 12's example: awake; the law LocalLast. -/
import Derived.Test.YtonfaojmphidpaaGreatDoorLawLocL
import Derived.Test.YtonfaojmphidpaaGreatDoorSlotsF
namespace Go.Proofs.YtonfaojmphidpaaGreatDoor
open Go.RowKit
set_option linter.unusedVariables false
set_option linter.unusedSimpArgs false

theorem Sl.blk {w : World} {b : Nat} {t : TypeId} {k : IntKind} {xs : List Int} (h : Blk w b t (nums k xs).toArray) : Sl k w (some ⟨b, 0, none⟩) xs.length xs :=
  ⟨by rw [nums_length, Nat.mul_one], Nat.le_refl _, (fun e => by cases e), fun _ => ⟨b, 0, rfl, h.lt, fun i v hi => by
    rw [Nat.zero_add, h.cell]; simpa using hi⟩⟩
set_option maxRecDepth 100000 in
set_option maxHeartbeats 2000000 in
theorem law12_awake (w : World) :
    Calls Tryz.prog 44 #[] w fun e w' => e = .returned (.bool true) ∧ RowKit.Below w.heap.size w w' := by
  go_enter Tryz.func44, Tryz.ntmps44
  go_wp2_with fail
  refine (local_New _).mono ?_
  rintro e w1 ⟨rfl, rfl⟩
  have s1 := Ls.new w
  have b1 := (RowKit.Below.refl w.heap.size w).alloc (Nat.le_refl _) (.cells #[.slice none 0 0, .slice none 0 0, .slice none 0 0, .slice none 0 0, .slice none 0 0, .slice none 0 0, .slice none 0 0, .slice none 0 0] 146)
  have hsz1 := size_alloc w (.cells #[.slice none 0 0, .slice none 0 0, .slice none 0 0, .slice none 0 0, .slice none 0 0, .slice none 0 0, .slice none 0 0, .slice none 0 0] 146)
  generalize w.alloc (.cells #[.slice none 0 0, .slice none 0 0, .slice none 0 0, .slice none 0 0, .slice none 0 0, .slice none 0 0, .slice none 0 0, .slice none 0 0] 146) = w1 at *
  have hal := (RowKit.Below.refl w1.heap.size w1).alloc (Nat.le_refl _) (.cells #[.int .u64 5, .int .u64 6, .int .u64 7, .int .u64 8, .int .u64 9] 28)
  have p1 : Calls Tryz.prog 48 #[.pointer (some ⟨w.heap.size, 0, none⟩), .int .i64 1, .slice (some ⟨w1.heap.size, 0, none⟩) 5 5] (w1.alloc (.cells #[.int .u64 5, .int .u64 6, .int .u64 7, .int .u64 8, .int .u64 9] 28)) _ :=
    local_Put w.heap.size (List.replicate 8 ⟨none, 0, []⟩) 1 ⟨none, 0, []⟩ rfl (some ⟨w1.heap.size, 0, none⟩) 5 [5, 6, 7, 8, 9] _ (s1.of_below hal) (Sl.blk (xs := [5, 6, 7, 8, 9]) (Blk.new _ _ _)) (by decide)
  have B1 := Lib.hid (below_step b1 b1.size hal); clear b1 s1 hal
  have P1 := Lib.hid p1; clear p1
  have HSZ1 := Lib.hid hsz1; clear hsz1
  go_wp2_with fail
  refine P1.out.mono ?_
  rintro e w2 ⟨rfl, l, hlx, hF, hg, -⟩
  have hlx' : l.xs = [6, 7, 8, 9] := hlx
  have b2 := hg.below B1.out (fun k _ hk => by rw [hk]; exact Nat.le_refl _) B1.out.size
  have hget : ((List.replicate 8 (⟨none, 0, []⟩ : Ln)).set 1 l)[1]? = some l := rfl
  have p2 : Calls Tryz.prog 53 #[.pointer (some ⟨w.heap.size, 0, none⟩), .int .i64 1] w2 _ := local_All w.heap.size _ 1 l hget w2 hF
  rw [hlx'] at p2
  have P2 := Lib.hid p2; clear p2
  have HF := Lib.hid hF; clear hF hg hlx
  have B2 := Lib.hid b2; clear b2 P1
  have HLX := Lib.hid hlx'; clear hlx'
  have HGET := Lib.hid hget; clear hget
  go_wp2_with fail
  refine P2.out.mono ?_
  rintro e w3 ⟨a3, c3, rfl, ho3, hb3⟩
  have B3 := Lib.hid (below_step B2.out B2.out.size hb3)
  have p3 : Calls Tryz.prog 49 #[.pointer (some ⟨w.heap.size, 0, none⟩), .int .i64 1] w3 _ := local_Take w.heap.size _ 1 l 9 HGET.out w3 (HF.out.of_below hb3) (by rw [HLX.out]; rfl)
  have P3 := Lib.hid p3; clear p3
  have HO3 := Lib.hid ho3; clear ho3
  have HF3 := Lib.hid (HF.out.of_below hb3); clear hb3 P2
  go_wp2_with fail
  refine P3.out.mono ?_
  rintro e w4 ⟨rfl, hF4, hg4⟩
  have B4 := Lib.hid (hg4.below B3.out (fun k _ hk => by rw [hk]; exact Nat.le_refl _) B3.out.size)
  have hs4 : Sl .u64 w4 a3 c3 [6, 7, 8, 9] := (show Sl .u64 w3 a3 c3 [6, 7, 8, 9] from own_rd HO3.out).kept_g HF3.out hg4
  have HS4 := Lib.hid hs4; clear hs4 hF4 hg4 P3
  go_wp2_with fail
  refine (law11_Awake _).mono ?_
  rintro e w5 ⟨rfl, hb5⟩
  have hal5 := (RowKit.Below.refl w5.heap.size w5).alloc (Nat.le_refl _) (.cells #[.int .u64 6, .int .u64 7, .int .u64 8, .int .u64 9] 28)
  have heq : Calls Tryz.prog 52 #[.slice a3 4 c3, .slice (some ⟨w5.heap.size, 0, none⟩) 4 4] (w5.alloc (.cells #[.int .u64 6, .int .u64 7, .int .u64 8, .int .u64 9] 28)) _ :=
    slices_Equal_u64 a3 (some ⟨w5.heap.size, 0, none⟩) c3 4 [6, 7, 8, 9] [6, 7, 8, 9] _ ((HS4.out.below hb5).below hal5) (Sl.blk (xs := [6, 7, 8, 9]) (Blk.new _ _ _)) (by decide) (by decide)
  rw [show (([6, 7, 8, 9] : List Int) == [6, 7, 8, 9]) = true from rfl] at heq
  have HEQ := Lib.hid heq; clear heq
  have b5 := below_step B4.out B4.out.size hb5
  have B5 := Lib.hid (below_step b5 b5.size hal5); clear hb5 b5 hal5
  go_wp2_with fail
  refine HEQ.out.mono ?_
  rintro e w6 ⟨rfl, q, rfl⟩
  go_wp2_with fail
  go_ret
  exact ⟨rfl, below_drewN B5.out q⟩
set_option maxHeartbeats 400000 in
theorem law_LocalLast (a : Option Addr) (len cap : Nat) (zs : List Int) (w : World) (h1 : Nums .u64 w a len cap zs) :
    Calls Tryz.prog 10 #[.slice a len cap] w fun e w' => e = .returned (.bool true) ∧ RowKit.Below w.heap.size w w' :=
  law_LocalLast_of law12_awake a len cap zs w h1
end Go.Proofs.YtonfaojmphidpaaGreatDoor
