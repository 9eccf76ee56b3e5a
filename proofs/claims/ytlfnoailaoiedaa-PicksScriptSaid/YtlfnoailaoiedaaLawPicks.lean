/- The walk of layer 8's law PicksScript. -/
import Derived.Test.YtlfnoailaoiedaaPicks3
import Derived.Test.YtlfnoailaoiedaaOpen
namespace Go.Proofs.Ytlfnoailaoiedaa
open Go.RowKit
set_option linter.unusedVariables false
set_option linter.unusedSimpArgs false

theorem pkL_script (zs : List Int) (K : Int) (hK : 1 ≤ K) : pkL (zs.map (· % K)) 0 K zs.length = zs.map (· % K) := by
  unfold pkL
  apply List.ext_getElem (by simp)
  intro i h1 h2
  have hi : i < zs.length := by simpa using h1
  simp only [List.getElem_map, List.getElem_range]
  unfold pkV
  rw [if_pos (by simpa using hi)]
  simp [List.getD_eq_getElem?_getD, hi]

set_option maxRecDepth 100000 in
set_option maxHeartbeats 4000000 in
theorem law_PicksScript (a : Option Addr) (len cap : Nat) (zs : List Int) (nn : Int) (w : World) (hz : Nums .u8 w a len cap zs) (h0 : 0 ≤ nn) (h1 : nn < 256) :
    Calls Try.prog 11 #[.slice a len cap, .int .u8 nn] w fun e w' => e = .returned (.bool true) ∧ Below w.heap.size w w' := by
  obtain ⟨rfl, hn2, hwf, hsl⟩ := hz
  by_cases hbig : 200 < zs.length
  · go_enter Try.func11, Try.ntmps11
    go_wp2_with (first | (go_at_call 64; refine (law08_awake _).mono ?_; rintro e w' ⟨rfl, hb⟩))
    go_ret
    exact ⟨rfl, hb⟩
  obtain ⟨K, hK⟩ : ∃ K : Nat, nn % 50 + 1 = (K : Int) := ⟨(nn % 50 + 1).toNat, by omega⟩
  have hK1 : 1 ≤ K := by omega
  have hK2 : K ≤ 50 := by omega
  have HWF := Lib.hid hwf; clear hwf
  have HSL := Lib.hid hsl; clear hsl
  go_enter Try.func11, Try.ntmps11
  go_wp2_with (first | (go_at_call 64; refine (law08_awake _).mono ?_; rintro e w0 ⟨rfl, hb0⟩))
  go_loopg [6, 24] zs.length (fun gh v iv wr => ∃ (i : Nat) (A1 : Option Addr) (c1 : Nat), gh = zs.length - i ∧ i ≤ zs.length ∧ iv = .int .i64 i ∧ v = .slice A1 i c1 ∧ wr.ownsRow w.heap.size 3 1 (.slice A1 i c1) i (nums .i64 ((zs.take i).map (· % (K : Int)))) ∧ Below w.heap.size w wr)
  case atStart => exact ⟨0, none, 0, by omega, by omega, rfl, rfl, World.ownsRow_nil _ _ _ _, hb0⟩
  case round =>
    clear hb0
    obtain ⟨i, A1, c1, rfl, hi, rfl, rfl, ho, hB⟩ := hrel
    have HO := Lib.hid ho; clear ho
    have HB := Lib.hid hB; clear hB
    by_cases hlt : i < zs.length
    · obtain ⟨b, off, rfl, hbs, hc⟩ := HSL.out.at_ (by omega)
      have c0 := (HB.out.cell (p := ⟨b, off + i, none⟩) hbs).trans (hc i hlt)
      clear hc
      have hxr := bounds_u8 (HWF.out (zs.getD i 0) (by rw [List.getD_eq_getElem?_getD, List.getElem?_eq_getElem hlt]; exact List.getElem_mem hlt))
      have htk : zs.take (i + 1) = zs.take i ++ [zs.getD i 0] := by rw [List.take_succ_eq_append_getElem hlt]; simp [List.getD_eq_getElem?_getD, hlt]
      generalize zs.getD i 0 = x at *
      have hx0 : 0 ≤ x := hxr.1
      have hx1 : x ≤ 255 := hxr.2
      have htm : x.tmod (K : Int) = x % (K : Int) := Int.tmod_eq_emod_of_nonneg hx0
      have hKne : (K : Int) ≠ 0 := by omega
      have hb1 : (i + 1) * 8 ≤ 140737488355328 := by omega
      have hb2 : i + 1 ≤ 9223372036854775807 := by omega
      have hz3 := HB.out.size
      have HTK := Lib.hid htk; clear htk hxr
      go_wp2_with (at_builtin; refine app_one wr rfl (.tmp 28) (.tmp 33) 104 rfl w.heap.size 3 (.int .i64 0) 1 8 Try.underlying104 Try.infoI rfl (by decide) (.slice A1 i c1) i _ rfl HO.out [.int .i64 (x % (K : Int))] rfl rfl (by simp [Value.oneCell']) hb2 hb1 hz3 ?_; intro A3 c3 w3 h3 g3 _; have H3 := Lib.hid h3; clear h3)
      go_roundg (zs.length - (i + 1))
      case measure => omega
      case rel =>
        refine ⟨i + 1, A3, c3, rfl, by omega, by go_num, rfl, ?_, HB.out.grown g3 HB.out.size (fun j hj => own_base HO.out j hj)⟩
        rw [HTK.out]
        have e : nums .i64 ((zs.take i ++ [x]).map (· % (K : Int))) = nums .i64 ((zs.take i).map (· % (K : Int))) ++ [.int .i64 (x % (K : Int))] := by simp [nums]
        rw [e]; exact H3.out
    · have hil : i = zs.length := by omega
      subst hil
      have ho := HO.out
      rw [List.take_length] at ho
      have hS0 := own_rd ho
      have hlen : (zs.map (· % (K : Int))).length = zs.length := by simp
      have hKp : (0 : Int) < K := by omega
      have hin : ∀ y ∈ zs.map (· % (K : Int)), I64 y := fun y hy => by
        obtain ⟨x, _, rfl⟩ := List.mem_map.1 hy
        have := Int.emod_nonneg x (show (K : Int) ≠ 0 by omega)
        have := Int.emod_lt_of_pos x hKp
        unfold I64; omega
      have hpkL := pkL_script zs K (by omega)
      generalize zs.map (· % (K : Int)) = sc at *
      have hSl : Sl .i64 wr A1 c1 sc := by unfold Sl; rw [hlen]; exact hS0
      have hnew := picks_New A1 c1 sc wr hSl hin (by omega)
      rw [hlen] at hnew
      have HNEW := Lib.hid hnew; clear hnew
      have HLEN := Lib.hid hlen; clear hlen
      have HPK := Lib.hid hpkL; clear hpkL
      have HS0 := Lib.hid hSl; clear hSl hS0 ho HO
      clear hin
      go_wp2_with fail
      refine HNEW.out.mono ?_
      rintro e w2 ⟨g, a2, c2, rfl, hp, hg, hb2⟩
      have hgw : w.heap.size ≤ g := by have := HB.out.size; omega
      have hsome := picks_Some g a2 c2 sc 0 K zs.length w2 hp (by omega) (by omega) (by omega) (by omega)
      rw [HPK.out] at hsome
      have HSOME := Lib.hid hsome; clear hsome
      have hB2 := below_step HB.out HB.out.size hb2
      clear hp
      go_wp2_with fail
      refine HSOME.out.mono ?_
      rintro e w3 ⟨a3, c3, A4, c4, rfl, ho4, hp4, hg4, -⟩
      have hB4 : Below w.heap.size w w3 := hB2.grown hg4 hB2.size (fun j hj => by cases hj; exact hgw)
      have hw3 : Below wr.heap.size wr w3 := hb2.grown hg4 hb2.size (fun j hj => by cases hj; exact hg)
      have hs4 : Sl .i64 w3 A4 c4 sc := by unfold Sl; rw [HLEN.out]; exact own_rd ho4
      have heq := slices_Equal_i64 A4 A1 c4 c1 sc sc w3 hs4 (HS0.out.below hw3) (by rw [HLEN.out]; omega) (by rw [HLEN.out]; omega)
      rw [HLEN.out] at heq
      have HEQ := Lib.hid heq; clear heq hs4 ho4
      rw [List.drop_of_length_le (by rw [HLEN.out]; exact Nat.le_refl _), show pkT sc 0 zs.length = 0 by unfold pkT; rw [HLEN.out]; simp] at hp4
      have HP4 := Lib.hid hp4; clear hp4
      go_wp2_with fail
      refine HEQ.out.mono ?_
      rintro e w4 ⟨rfl, q, rfl⟩
      have hd := below_drewN (Below.refl w3.heap.size w3) q
      have hp5 := HP4.out.of_below hd
      have hB5 := below_drewN hB4 q
      generalize w3.drewN q = w5 at *
      have hleft := picks_Left g a3 c3 [] 0 w5 hp5
      have HL := Lib.hid hleft; clear hleft
      have hK2' : IntKind.i64.wrap (2 * (K : Int)) = 2 * (K : Int) := by rw [IntKind.wrap_i64]; omega
      have HP5 := Lib.hid hp5; clear hp5 HP4
      go_wp2_with (go_at_call 68; refine HL.out.mono ?_; rintro e w6 ⟨rfl, rfl⟩)
      go_loopg [53] (2 * K) (fun gh iv wx => ∃ (j : Nat) (a' : Option Addr) (c' : Nat), gh = 2 * K - j ∧ j ≤ 2 * K ∧ iv = .int .i64 j ∧ Pk wx g a' c' [] (j : Int) ∧ Below w.heap.size w wx)
      case atStart => exact ⟨0, a3, c3, by omega, by omega, rfl, HP5.out, hB5⟩
      case round =>
        clear HP5 hB5 hB4 hB2
        obtain ⟨j, a', c', rfl, hj, rfl, hP, hB⟩ := hrel
        have HP := Lib.hid hP; clear hP
        by_cases hjl : j < 2 * K
        · have hjl' : (j : Int) < 2 * (K : Int) := by omega
          have hn := picks_Next_turn g a' c' j K wr HP.out (by omega) (by omega) (by omega)
          have HN := Lib.hid hn; clear hn
          have hKne : (K : Int) ≠ 0 := by omega
          have htm : (j : Int).tmod (K : Int) = (j : Int) % (K : Int) := Int.tmod_eq_emod_of_nonneg (by omega)
          go_wp2_with (go_at_call 69; refine HN.out.mono ?_; rintro e w6 ⟨rfl, p6, g6⟩)
          go_roundg (2 * K - (j + 1))
          case measure => omega
          case rel => exact ⟨j + 1, a', c', rfl, by omega, by go_num, by exact_mod_cast p6, hB.grown g6 hB.size (fun i hi => by cases hi; exact hgw)⟩
        · have hjl' : ¬ (j : Int) < 2 * (K : Int) := by omega
          go_wp2
          go_ret
          exact ⟨rfl, hB⟩
end Go.Proofs.Ytlfnoailaoiedaa
