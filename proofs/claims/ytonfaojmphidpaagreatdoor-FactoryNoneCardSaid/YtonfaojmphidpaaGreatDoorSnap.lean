/- Package snap, and the document's lists. -/
import Derived.Test.YtonfaojmphidpaaGreatDoorSlFn
import Derived.Test.YtonfaojmphidpaaGreatDoorCell
namespace Go.Proofs.YtonfaojmphidpaaGreatDoor
open Go.RowKit
set_option linter.unusedVariables false
set_option linter.unusedSimpArgs false

theorem erase_idx {xs : List Int} {n : Int} (h : n ∈ xs) : ∃ i : Nat, i < xs.length ∧ idxI xs n = i ∧ xs.eraseIdx i = xs.erase n := by
  have hx := List.erase_eq_eraseIdx xs n
  unfold idxI
  have e : List.idxOf? n xs = xs.findIdx? (· == n) := rfl
  rw [e] at hx
  cases hf : xs.findIdx? (· == n) with
  | none =>
    rw [List.findIdx?_eq_none_iff] at hf
    have := hf n h
    simp at this
  | some i =>
    rw [hf] at hx
    have := (List.findIdx?_eq_some_iff_getElem.1 hf).1
    exact ⟨i, this, rfl, hx.symm⟩

theorem own_blk {w : World} {B n c : Nat} {e : TypeId} {k : IntKind} {A : Option Addr} {xs : List Int} (h : w.ownsRow B e 1 (.slice A n c) n (nums k xs)) (h0 : 0 < n) :
    ∃ g cur, A = some ⟨g, 0, none⟩ ∧ B ≤ g ∧ Blk w g e cur ∧ cur.size = c ∧ n ≤ c ∧ c ≤ 9223372036854775807 ∧ xs.length = n ∧ ∀ j, j < n → cur[j]? = some (.int k (xs.getD j 0)) := by
  obtain ⟨hl, hv⟩ := h
  rcases hv with ⟨hv, _⟩ | ⟨g, cap, cur, hv, hb, hg, hn, hm, hs, ht⟩
  · simp only [Value.slice.injEq] at hv; omega
  · simp only [Value.slice.injEq] at hv
    obtain ⟨rfl, _, rfl⟩ := hv
    have hxl : xs.length = n := by rw [nums_length] at hl; omega
    refine ⟨g, cur, rfl, hb, hg, by omega, hn, by unfold maxLen at hm; omega, hxl, fun j hj => ?_⟩
    have : (nums k xs)[j]? = some (.int k (xs.getD j 0)) := nums_get (by omega)
    rw [← ht, List.getElem?_take] at this
    split at this
    · simpa using this
    · cases this

theorem blk_sl {w : World} {g cap : Nat} {e : TypeId} {k : IntKind} {cur : Array Value} {ys : List Int} (hk : Blk w g e cur) (hs : cur.size = cap) (hl : ys.length ≤ cap) (hc : ∀ j, j < ys.length → cur[j]? = some (.int k (ys.getD j 0))) :
    Sl k w (some ⟨g, 0, none⟩) cap ys :=
  ⟨by simp [nums], hl, (fun h => by cases h), fun _ => ⟨g, 0, rfl, hk.lt, fun i v hi => by
    have hil : i < ys.length := by have := (List.getElem?_eq_some_iff.1 hi).1; rwa [nums_length] at this
    rw [nums_get hil] at hi
    rw [hk.cell, Nat.zero_add, hc i hil, ← hi]⟩⟩

def ofL (xs : List Int) : List Int := xs.foldl withL []
theorem ofL_snoc (xs : List Int) (x : Int) : ofL (xs ++ [x]) = withL (ofL xs) x := by simp [ofL]
theorem withL_length (xs : List Int) (n : Int) : (withL xs n).length ≤ xs.length + 1 := by unfold withL; split <;> simp
theorem take_snoc {α : Type} [Inhabited α] (xs : List α) (k : Nat) (h : k < xs.length) : xs.take (k + 1) = xs.take k ++ [xs.getD k default] := by
  rw [List.take_succ_eq_append_getElem h]; simp [List.getD_eq_getElem?_getD, h]
theorem ofL_length (xs : List Int) (k : Nat) : (ofL (xs.take k)).length ≤ k := by
  induction k with
  | zero => simp [ofL]
  | succ k ih =>
    by_cases h : k < xs.length
    · rw [take_snoc xs k h, ofL_snoc]
      have := withL_length (ofL (xs.take k)) (xs.getD k default)
      omega
    · rw [List.take_of_length_le (by omega)] at ih ⊢
      omega

set_option maxHeartbeats 1000000 in
theorem snap_Of (a : Option Addr) (cap : Nat) (xs : List Int) (w : World) (h : Sl .u64 w a cap xs) (hl : xs.length ≤ 10000) :
    Calls Tryz.prog 190 #[.slice a xs.length cap] w fun e w' => ∃ a' cap', e = .returned (.agg #[.slice a' (ofL xs).length cap']) ∧ Sl .u64 w' a' cap' (ofL xs) ∧ (∀ q, a' = some q → w.heap.size ≤ q.block) ∧ Below w.heap.size w w' := by
  go_enter Tryz.func190, Tryz.ntmps190
  go_wp2
  go_loopw [8] (fun i wr => ∃ (k : Nat) (ys : List Int) (ay : Option Addr) (cy : Nat), k ≤ xs.length ∧ i = .int .i64 k ∧ ys = ofL (xs.take k) ∧ Blk wr (w.heap.size + 1) 251 #[.slice ay ys.length cy] ∧ Blk wr w.heap.size 251 #[.slice none 0 0] ∧
    Sl .u64 wr ay cy ys ∧ (∀ q, ay = some q → w.heap.size + 2 ≤ q.block) ∧ Below w.heap.size w wr) (fun i _ => xs.length - (intOf i).toNat)
  case atStart =>
    have b2 := Blk.new (w.alloc (.cells #[.slice none 0 0] 251)) 251 #[.slice none 0 0]
    rw [World.size_alloc] at b2
    exact ⟨0, [], none, 0, by omega, rfl, by simp [ofL], b2, (Blk.new _ _ _).alloc _, Rd.nil_ 1 _, (fun q hq => by cases hq), ((Below.refl w.heap.size w).alloc (Nat.le_refl _) _).alloc (by simp) _⟩
  case round =>
    obtain ⟨k, ys, ay, cy, hk, rfl, hys, hb1, hb0, hsl, hloc, hB⟩ := hrel
    have hyl : ys.length ≤ k := by rw [hys]; exact ofL_length xs k
    have HYS := Lib.hid hys; clear hys
    have p0 := hb1.cell 0
    have p1 := hb1.frozen 0
    have p2 := hb0.cell 0
    have p3 := hb0.frozen 0
    simp only [List.getElem?_toArray, List.getElem?_cons_zero] at p0 p2
    have hz1 := hb1.lt
    by_cases hlt : k < xs.length
    · obtain ⟨b, off, rfl, hbs, hc⟩ := h.at_ (by omega)
      have c0 := (hB.cell (p := ⟨b, off + k, none⟩) hbs).trans (hc k hlt)
      clear hc
      generalize hx : xs.getD k 0 = x at c0
      have HX := Lib.hid hx; clear hx
      go_wp2_with (go_at_call 195; refine (snap_With _ _ _ _ _ hsl (by omega)).mono ?_; rintro e w1 ⟨a1, cap1, rfl, hs1, hl1, hb⟩; obtain ⟨bc, bf⟩ := bcell hb)
      go_roundw
      case rel =>
        refine ⟨k + 1, withL ys x, a1, cap1, by omega, by go_num, ?_, (hb1.of_below hb).put 0 _, (hb0.of_below hb).far (by simp) _, ?_, ?_, ?_⟩
        · rw [take_snoc xs k hlt, ofL_snoc, ← HYS.out, ← HX.out]; rfl
        · refine Rd.far hs1 (fun q hq => ?_) _
          rcases hl1 with e | e
          · rw [e] at hq; have := hloc q hq; simp; omega
          · have := e q hq; simp; omega
        · intro q hq
          rcases hl1 with e | e
          · rw [e] at hq; exact hloc q hq
          · have := e q hq; omega
        · exact (below_step hB hB.size hb).setCell (by simp) _
      case measure => simp [intOf]; omega
    · go_wp2
      have e : ys = ofL xs := by rw [HYS.out, List.take_of_length_le (by omega)]
      refine bodyPost_ret (v := .agg #[.slice ay ys.length cy]) (by simp [results, Tryz.results190, go_sem, p2]) rfl ?_
      rw [← e]
      refine ⟨ay, cy, rfl, Rd.far hsl (fun q hq => by have := hloc q hq; simp; omega) _, fun q hq => by have := hloc q hq; omega, hB.setCell (by simp) _⟩
end Go.Proofs.YtonfaojmphidpaaGreatDoor
