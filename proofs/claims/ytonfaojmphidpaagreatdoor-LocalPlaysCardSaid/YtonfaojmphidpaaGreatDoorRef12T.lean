/- Chapter 12: the document's Take. -/
import Derived.Test.YtonfaojmphidpaaGreatDoorRef12P
namespace Go.Proofs.YtonfaojmphidpaaGreatDoor
open Go.RowKit
set_option linter.unusedVariables false
set_option linter.unusedSimpArgs false

set_option maxHeartbeats 1000000 in
theorem ref12_Take_no (v : Value) (th : Int) (w : World) (ht : th < 0 ∨ 8 ≤ th) :
    Calls Tryz.prog 50 #[v, .int .i64 th] w fun e w' => e = .returned (.tuple #[v, .int .u64 0, .bool false]) ∧ w = w' := by
  by_cases h0 : th < 0
  · clear ht
    go_enter Tryz.func50, Tryz.ntmps50
    go_wp2
    go_ret3
    exact ⟨rfl, rfl⟩
  · have h8 : 7 < th := by omega
    clear ht
    go_enter Tryz.func50, Tryz.ntmps50
    go_wp2
    go_ret3
    exact ⟨rfl, rfl⟩
set_option maxHeartbeats 1000000 in
theorem ref12_Take_empty (a : Option Addr) (c : Nat) (R : List Ln) (k : Nat) (l : Ln) (B : Nat) (w : World) (h : Rl w B a c R) (hl : R[k]? = some l) (he : l.xs = []) :
    Calls Tryz.prog 50 #[.slice a 8 c, .int .i64 k] w fun e w' => e = .returned (.tuple #[.slice a 8 c, .int .u64 0, .bool false]) ∧ w = w' := by
  have hk : k < 8 := by have := (List.getElem?_eq_some_iff.1 hl).1; rw [h.n8] at this; exact this
  obtain ⟨b0, rfl, hb0, hc8, hat⟩ := h.at_
  have hcell := hat k l hl
  rw [he] at hcell
  clear hat hl h he
  have h0 : ¬ (k : Int) < 0 := by omega
  have h7 : ¬ (7 : Int) < (k : Int) := by omega
  have hk8 : (k : Int) < 8 := by omega
  go_enter Tryz.func50, Tryz.ntmps50
  go_wp2
  go_ret3
  exact ⟨rfl, rfl⟩

/-- What Take comes to, of one that is there. -/
def Take12 (R : List Ln) (k : Nat) (l : Ln) (x : Int) (w : World) (e : Ending) (w' : World) : Prop := ∃ a' c', e = .returned (.tuple #[.slice a' 8 c', .int .u64 x, .bool true]) ∧ Rl w' w.heap.size a' c' (R.set k ⟨l.a, l.c, l.xs.dropLast⟩) ∧ RowKit.Below w.heap.size w w'
set_option maxRecDepth 100000 in
set_option maxHeartbeats 4000000 in
theorem ref12_Take (a : Option Addr) (c : Nat) (R : List Ln) (k : Nat) (l : Ln) (x : Int) (B : Nat) (w : World) (h : Rl w B a c R) (hl : R[k]? = some l) (hx : l.xs.getLast? = some x) :
    Calls Tryz.prog 50 #[.slice a 8 c, .int .i64 k] w (Take12 R k l x w) := by
  have hk : k < 8 := by have := (List.getElem?_eq_some_iff.1 hl).1; rw [h.n8] at this; exact this
  have hmem := List.mem_of_getElem? hl
  have hll := h.len l hmem
  have hsl := h.sl l hmem
  obtain ⟨b0, rfl, hb0, hc8, hat⟩ := h.at_
  have hcell := hat k l hl
  obtain ⟨la, lc, xs⟩ := l
  dsimp only at *
  have hpos : 0 < xs.length := by
    cases xs with
    | nil => simp at hx
    | cons y ys => simp
  obtain ⟨m, hm⟩ : ∃ m, xs.length = m + 1 := ⟨xs.length - 1, by omega⟩
  have hxm : xs[m]? = some x := by rw [List.getLast?_eq_getElem?, hm] at hx; exact hx
  obtain ⟨lb, lo, rfl, hlb, hlc⟩ := hsl.at_ hpos
  have hlx : w.cell? ⟨lb, lo + m, none⟩ = some (.int .u64 x) := by
    have := hlc m (by omega)
    rw [this, List.getD_eq_getElem?_getD, hxm]; rfl
  have hle := hsl.2.1
  have hdrop : xs.dropLast = xs.take m := by rw [List.dropLast_eq_take, hm]; rfl
  have htk := hsl.takeN m (by omega)
  have htl : (xs.take m).length = m := by simp; omega
  rw [hm] at hcell
  have hmc : m ≤ lc := by omega
  have hw1 : IntKind.i64.wrap (m : Int) = (m : Int) := by rw [IntKind.wrap_i64]; omega
  have hm3 : m ≤ 3 := by omega
  have hmlt : (m : Int) < (m : Int) + 1 := by omega
  have hwith := fun w' (hb : RowKit.Below w.heap.size w w') => ref12_with (some ⟨b0, 0, none⟩) c R k ⟨some ⟨lb, lo, none⟩, lc, xs.take m⟩ B w' (h.of_below hb) hk (htk.below hb) (by dsimp only; omega)
  dsimp only at hwith
  rw [htl] at hwith
  have HWITH := Lib.hid hwith; clear hwith htl htk
  have HD := Lib.hid hdrop; clear hdrop
  have hxc : ∀ w', RowKit.Below w.heap.size w w' → w'.cell? ⟨b0, k, none⟩ = some (.slice (some ⟨lb, lo, none⟩) (m + 1) lc) ∧ w'.cell? ⟨lb, lo + m, none⟩ = some (.int .u64 x) := fun w' hw' => ⟨(hw'.cell (p := ⟨b0, k, none⟩) hb0).trans hcell, (hw'.cell (p := ⟨lb, lo + m, none⟩) hlb).trans hlx⟩
  have HX := Lib.hid hxc; clear hxc
  have HH := Lib.hid h
  clear h hat hl hsl hlc hmem hx hxm hm hle hpos hll
  have h0 : ¬ (k : Int) < 0 := by omega
  have h7 : ¬ (7 : Int) < (k : Int) := by omega
  have hk8 : (k : Int) < 8 := by omega
  go_enter Tryz.func50, Tryz.ntmps50
  go_wp2_with fail
  refine wp_region_mix (fun w' => RowKit.Below w.heap.size w w') [(0, true), (1, true), (2, true), (3, true), (4, true), (5, true), (6, true), (7, true), (8, true), (10, true), (11, true), (12, true), (13, true), (14, true), (15, true), (16, true), (17, true), (9, false), (18, true), (19, true), (20, true)] (by kernel_rfl) (by kernel_rfl) ((Below.refl _ _).drew) ?_
  refine ord_still rfl rfl (fun K hK => ?_); apply Exists.intro; refine ⟨fun w' hw' => ?_, ?_⟩; (obtain ⟨z0, z1⟩ := HX.out w' hw'; go_simp; first | done | exact ⟨rfl, rfl⟩ | exact rfl); (go_simp; refine hK _ ?_; clear hK K)
  refine ord_still rfl rfl (fun K hK => ?_); apply Exists.intro; refine ⟨fun w' hw' => ?_, ?_⟩; (obtain ⟨z0, z1⟩ := HX.out w' hw'; go_simp; first | done | exact ⟨rfl, rfl⟩ | exact rfl); (go_simp; refine hK _ ?_; clear hK K)
  refine ord_still rfl rfl (fun K hK => ?_); apply Exists.intro; refine ⟨fun w' hw' => ?_, ?_⟩; (obtain ⟨z0, z1⟩ := HX.out w' hw'; go_simp; first | done | exact ⟨rfl, rfl⟩ | exact rfl); (go_simp; refine hK _ ?_; clear hK K)
  refine ord_still rfl rfl (fun K hK => ?_); apply Exists.intro; refine ⟨fun w' hw' => ?_, ?_⟩; (obtain ⟨z0, z1⟩ := HX.out w' hw'; go_simp; first | done | exact ⟨rfl, rfl⟩ | exact rfl); (go_simp; refine hK _ ?_; clear hK K)
  refine ord_still rfl rfl (fun K hK => ?_); apply Exists.intro; refine ⟨fun w' hw' => ?_, ?_⟩; (obtain ⟨z0, z1⟩ := HX.out w' hw'; go_simp; first | done | exact ⟨rfl, rfl⟩ | exact rfl); (go_simp; refine hK _ ?_; clear hK K)
  refine ord_still rfl rfl (fun K hK => ?_); apply Exists.intro; refine ⟨fun w' hw' => ?_, ?_⟩; (obtain ⟨z0, z1⟩ := HX.out w' hw'; go_simp; first | done | exact ⟨rfl, rfl⟩ | exact rfl); (go_simp; refine hK _ ?_; clear hK K)
  refine ord_still rfl rfl (fun K hK => ?_); apply Exists.intro; refine ⟨fun w' hw' => ?_, ?_⟩; (obtain ⟨z0, z1⟩ := HX.out w' hw'; go_simp; first | done | exact ⟨rfl, rfl⟩ | exact rfl); (go_simp; refine hK _ ?_; clear hK K)
  refine ord_still rfl rfl (fun K hK => ?_); apply Exists.intro; refine ⟨fun w' hw' => ?_, ?_⟩; (obtain ⟨z0, z1⟩ := HX.out w' hw'; go_simp; first | done | exact ⟨rfl, rfl⟩ | exact rfl); (go_simp; refine hK _ ?_; clear hK K)
  refine ord_still rfl rfl (fun K hK => ?_); apply Exists.intro; refine ⟨fun w' hw' => ?_, ?_⟩; (obtain ⟨z0, z1⟩ := HX.out w' hw'; go_simp; first | done | exact ⟨rfl, rfl⟩ | exact rfl); (go_simp; refine hK _ ?_; clear hK K)
  refine ord_still rfl rfl (fun K hK => ?_); apply Exists.intro; refine ⟨fun w' hw' => ?_, ?_⟩; (obtain ⟨z0, z1⟩ := HX.out w' hw'; go_simp; first | done | exact ⟨rfl, rfl⟩ | exact rfl); (go_simp; refine hK _ ?_; clear hK K)
  refine ord_still rfl rfl (fun K hK => ?_); apply Exists.intro; refine ⟨fun w' hw' => ?_, ?_⟩; (obtain ⟨z0, z1⟩ := HX.out w' hw'; go_simp; first | done | exact ⟨rfl, rfl⟩ | exact rfl); (go_simp; refine hK _ ?_; clear hK K)
  refine ord_still rfl rfl (fun K hK => ?_); apply Exists.intro; refine ⟨fun w' hw' => ?_, ?_⟩; (obtain ⟨z0, z1⟩ := HX.out w' hw'; go_simp; first | done | exact ⟨rfl, rfl⟩ | exact rfl); (go_simp; refine hK _ ?_; clear hK K)
  refine ord_still rfl rfl (fun K hK => ?_); apply Exists.intro; refine ⟨fun w' hw' => ?_, ?_⟩; (obtain ⟨z0, z1⟩ := HX.out w' hw'; go_simp; first | done | exact ⟨rfl, rfl⟩ | exact rfl); (go_simp; refine hK _ ?_; clear hK K)
  refine ord_still rfl rfl (fun K hK => ?_); apply Exists.intro; refine ⟨fun w' hw' => ?_, ?_⟩; (obtain ⟨z0, z1⟩ := HX.out w' hw'; go_simp; first | done | exact ⟨rfl, rfl⟩ | exact rfl); (go_simp; refine hK _ ?_; clear hK K)
  refine ord_still rfl rfl (fun K hK => ?_); apply Exists.intro; refine ⟨fun w' hw' => ?_, ?_⟩; (obtain ⟨z0, z1⟩ := HX.out w' hw'; go_simp; first | done | exact ⟨rfl, rfl⟩ | exact rfl); (go_simp; refine hK _ ?_; clear hK K)
  refine ord_still rfl rfl (fun K hK => ?_); apply Exists.intro; refine ⟨fun w' hw' => ?_, ?_⟩; (obtain ⟨z0, z1⟩ := HX.out w' hw'; go_simp; first | done | exact ⟨rfl, rfl⟩ | exact rfl); (go_simp; refine hK _ ?_; clear hK K)
  refine ord_still rfl rfl (fun K hK => ?_); apply Exists.intro; refine ⟨fun w' hw' => ?_, ?_⟩; (obtain ⟨z0, z1⟩ := HX.out w' hw'; go_simp; first | done | exact ⟨rfl, rfl⟩ | exact rfl); (go_simp; refine hK _ ?_; clear hK K)
  refine ord_sole rfl rfl (fun K hK => ?_); go_simp
  refine (HWITH.out _ (Below.refl w.heap.size w).drew).mono ?_
  rintro e u1 ⟨a', c', rfl, hr, hb5⟩
  have hc' := below_step (Below.refl w.heap.size w).drew (Nat.le_refl _) hb5
  refine ⟨_, rfl, hc', ?_⟩
  have HR := Lib.hid hr; clear hr
  have HC := Lib.hid hc'; clear hc' hb5
  go_simp
  refine hK _ _ ?_; clear hK K
  refine ord_still rfl rfl (fun K hK => ?_); apply Exists.intro; refine ⟨fun w' hw' => ?_, ?_⟩; (obtain ⟨z0, z1⟩ := HX.out w' hw'; go_simp; first | done | exact ⟨rfl, rfl⟩ | exact rfl); (go_simp; refine hK _ ?_; clear hK K)
  refine ord_still rfl rfl (fun K hK => ?_); apply Exists.intro; refine ⟨fun w' hw' => ?_, ?_⟩; (obtain ⟨z0, z1⟩ := HX.out w' hw'; go_simp; first | done | exact ⟨rfl, rfl⟩ | exact rfl); (go_simp; refine hK _ ?_; clear hK K)
  refine ord_still rfl rfl (fun K hK => ?_); apply Exists.intro; refine ⟨fun w' hw' => ?_, ?_⟩; (obtain ⟨z0, z1⟩ := HX.out w' hw'; go_simp; first | done | exact ⟨rfl, rfl⟩ | exact rfl); (go_simp; refine hK _ ?_; clear hK K)
  refine ord_nil ?_
  intro hCx
  go_wp2
  go_ret3
  refine ⟨a', c', rfl, ?_, HC.out⟩
  dsimp only
  rw [HD.out]
  exact HR.out
end Go.Proofs.YtonfaojmphidpaaGreatDoor
