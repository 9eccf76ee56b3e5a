/- Package snap, and the document's lists. -/
import Derived.Test.YthjefbfhpdbcjaaSlFn
import Derived.Test.YthjefbfhpdbcjaaCell
namespace Go.Proofs.Ythjefbfhpdbcjaa
open Go.RowKit
set_option linter.unusedVariables false
set_option linter.unusedSimpArgs false

theorem erase_idx {xs : List Int} {n : Int} (h : n ∈ xs) : ∃ i : Nat, i < xs.length ∧ idxI xs n = i ∧ xs.eraseIdx i = xs.erase n := by
  have hx := List.erase_eq_eraseIdx xs n
  unfold idxI
  have e : List.idxOf? n xs = xs.findIdx? (· == n) := rfl
  rw [e] at hx
  cases hf : xs.findIdx? (· == n) with
  | none =>
    rw [List.findIdx?_eq_none_iff] at hf
    have := hf n h
    simp at this
  | some i =>
    rw [hf] at hx
    have := (List.findIdx?_eq_some_iff_getElem.1 hf).1
    exact ⟨i, this, rfl, hx.symm⟩

theorem own_blk {w : World} {B n c : Nat} {e : TypeId} {k : IntKind} {A : Option Addr} {xs : List Int} (h : w.ownsRow B e 1 (.slice A n c) n (nums k xs)) (h0 : 0 < n) :
    ∃ g cur, A = some ⟨g, 0, none⟩ ∧ B ≤ g ∧ Blk w g e cur ∧ cur.size = c ∧ n ≤ c ∧ c ≤ 9223372036854775807 ∧ xs.length = n ∧ ∀ j, j < n → cur[j]? = some (.int k (xs.getD j 0)) := by
  obtain ⟨hl, hv⟩ := h
  rcases hv with ⟨hv, _⟩ | ⟨g, cap, cur, hv, hb, hg, hn, hm, hs, ht⟩
  · simp only [Value.slice.injEq] at hv; omega
  · simp only [Value.slice.injEq] at hv
    obtain ⟨rfl, _, rfl⟩ := hv
    have hxl : xs.length = n := by rw [nums_length] at hl; omega
    refine ⟨g, cur, rfl, hb, hg, by omega, hn, by unfold maxLen at hm; omega, hxl, fun j hj => ?_⟩
    have : (nums k xs)[j]? = some (.int k (xs.getD j 0)) := nums_get (by omega)
    rw [← ht, List.getElem?_take] at this
    split at this
    · simpa using this
    · cases this

theorem blk_sl {w : World} {g cap : Nat} {e : TypeId} {k : IntKind} {cur : Array Value} {ys : List Int} (hk : Blk w g e cur) (hs : cur.size = cap) (hl : ys.length ≤ cap) (hc : ∀ j, j < ys.length → cur[j]? = some (.int k (ys.getD j 0))) :
    Sl k w (some ⟨g, 0, none⟩) cap ys :=
  ⟨by simp [nums], hl, (fun h => by cases h), fun _ => ⟨g, 0, rfl, hk.lt, fun i v hi => by
    have hil : i < ys.length := by have := (List.getElem?_eq_some_iff.1 hi).1; rwa [nums_length] at this
    rw [nums_get hil] at hi
    rw [hk.cell, Nat.zero_add, hc i hil, ← hi]⟩⟩

set_option maxHeartbeats 1000000 in
theorem snap_Without (a : Option Addr) (cap : Nat) (xs : List Int) (n : Int) (w : World) (h : Sl .u64 w a cap xs) (hl : xs.length ≤ 100000) :
    Calls Try.prog 8 #[.agg #[.slice a xs.length cap], .int .u64 n] w fun e w' => ∃ a' cap', e = .returned (.agg #[.slice a' (xs.erase n).length cap']) ∧ Sl .u64 w' a' cap' (xs.erase n) ∧ Loc w.heap.size a a' ∧ Below w.heap.size w w' := by
  have HS : ∀ w1, Below w.heap.size w w1 → Sl .u64 w1 a cap xs := fun w1 hb => h.below hb
  have HH := Lib.hid HS
  clear HS
  by_cases hm : n ∈ xs
  · obtain ⟨i, hi, hidx, her⟩ := erase_idx hm
    have hlen : (xs.erase n).length = xs.length - 1 := by rw [List.length_erase_of_mem hm]
    have hx0 : 0 < xs.length := by omega
    rw [← her]; rw [← her] at hlen
    have HE := Lib.hid her; clear her
    have HL := Lib.hid hlen; clear hlen
    rw [HL.out]
    have hwr : IntKind.i64.wrap ((i : Int) + 1) = (i : Int) + 1 := by rw [IntKind.wrap_i64]; omega
    go_enter Try.func8, Try.ntmps8
    go_wp2_with (first | (go_at_call 9; refine (snap_Index _ _ _ _ _ (HH.out _ (by exact ((Below.refl w.heap.size w).alloc (Nat.le_refl _) _).alloc (by simp) _)) (by omega)).mono ?_; rintro e w1 ⟨rfl, hb⟩; obtain ⟨bc, bf⟩ := bcell hb; have hz : w.heap.size + 1 < w1.heap.size := by (have := hb.size; simp at this; omega)) | (go_at_call 15; refine (slices_Clone_u64 _ _ _ _ (HH.out _ (by exact below_step (((Below.refl w.heap.size w).alloc (Nat.le_refl _) _).alloc (by simp) _) (by simp; omega) hb)) (by omega)).mono ?_; rintro e w2 ⟨a2, cap2, rfl, ho, hn, hb2⟩; obtain ⟨bc2, bf2⟩ := bcell hb2; have hz2 := hb2.size; obtain ⟨g, cur, rfl, hg, hk, hks, hk1, hk2, _, hk3⟩ := own_blk ho hx0; have HK3 := Lib.hid hk3; clear hk3; have HKS := Lib.hid hks; clear hks))
    refine (slices_Delete_u64 g cap2 i cur xs _ hk HKS.out HK3.out hi hk1 hk2).mono ?_
    rintro e w3 ⟨rfl, ⟨cur3, hk4, hk5, hk6⟩, hgr⟩
    have hz3 := hgr.size
    have HK5 := Lib.hid hk5; clear hk5
    have HK6 := Lib.hid hk6; clear hk6
    have e1 : w3.heap[w.heap.size + 1]? = w2.heap[w.heap.size + 1]? := hgr.block _ (by omega) (fun e => by injection e; omega)
    have q0 : w3.cell? ⟨w.heap.size + 1, 0, none⟩ = some (.slice none 0 0) := by
      rw [World.cell?_of_block (w := w2) e1, bc2 _ _ hz, bc _ _ (by simp)]; simp
    have q1 : w3.frozen? ⟨w.heap.size + 1, 0, none⟩ = false := by
      rw [World.frozen?_of_block (w := w2) e1, bf2 _ _ hz, bf _ _ (by simp)]; simp
    go_wp2
    refine bodyPost_ret (v := .agg #[.slice (some ⟨g, 0, none⟩) (xs.length - 1) cap2]) (by simp [results, Try.results8, go_sem, q0]) rfl ?_
    have hB := below_step (((Below.refl w.heap.size w).alloc (Nat.le_refl _) _).alloc (by simp) _) (by simp; omega) hb
    have hB2 := below_step hB (by omega) hb2
    have hB3 := hB2.grown hgr (by omega) (fun k hk => by injection hk; omega)
    refine ⟨_, cap2, rfl, ?_, .inr fun q hq => by (injection hq with hq; subst hq; simp; omega), hB3.setCell (by simp) _⟩
    exact blk_sl (hk4.far (by simp; omega) _) HK5.out (by rw [HL.out]; omega) fun j hj => HK6.out j (by rw [HL.out] at hj; exact hj)
  · have e : xs.erase n = xs := List.erase_of_not_mem hm
    rw [e]; clear e
    have hi : idxI xs n < 0 := idxI_neg.2 hm
    go_enter Try.func8, Try.ntmps8
    go_wp2_with (go_at_call 9; refine (snap_Index _ _ _ _ _ (HH.out _ (by exact ((Below.refl w.heap.size w).alloc (Nat.le_refl _) _).alloc (by simp) _)) (by omega)).mono ?_; rintro e w1 ⟨rfl, hb⟩; obtain ⟨bc, bf⟩ := bcell hb; have hz := hb.size)
    refine bodyPost_ret (v := .agg #[.slice a xs.length cap]) (by simp [results, Try.results8, go_sem, bc, bf]) rfl ?_
    have hB := below_step (((Below.refl w.heap.size w).alloc (Nat.le_refl _) _).alloc (by simp) _) (by simp; omega) hb
    exact ⟨a, cap, rfl, HH.out _ (hB.setCell (by simp) _), .inl rfl, hB.setCell (by simp) _⟩

def ofL (xs : List Int) : List Int := xs.foldl withL []
theorem ofL_snoc (xs : List Int) (x : Int) : ofL (xs ++ [x]) = withL (ofL xs) x := by simp [ofL]
theorem withL_length (xs : List Int) (n : Int) : (withL xs n).length ≤ xs.length + 1 := by unfold withL; split <;> simp
theorem take_snoc {α : Type} [Inhabited α] (xs : List α) (k : Nat) (h : k < xs.length) : xs.take (k + 1) = xs.take k ++ [xs.getD k default] := by
  rw [List.take_succ_eq_append_getElem h]; simp [List.getD_eq_getElem?_getD, h]
theorem ofL_length (xs : List Int) (k : Nat) : (ofL (xs.take k)).length ≤ k := by
  induction k with
  | zero => simp [ofL]
  | succ k ih =>
    by_cases h : k < xs.length
    · rw [take_snoc xs k h, ofL_snoc]
      have := withL_length (ofL (xs.take k)) (xs.getD k default)
      omega
    · rw [List.take_of_length_le (by omega)] at ih ⊢
      omega

set_option maxHeartbeats 1000000 in
theorem snap_Of (a : Option Addr) (cap : Nat) (xs : List Int) (w : World) (h : Sl .u64 w a cap xs) (hl : xs.length ≤ 10000) :
    Calls Try.prog 5 #[.slice a xs.length cap] w fun e w' => ∃ a' cap', e = .returned (.agg #[.slice a' (ofL xs).length cap']) ∧ Sl .u64 w' a' cap' (ofL xs) ∧ (∀ q, a' = some q → w.heap.size ≤ q.block) ∧ Below w.heap.size w w' := by
  go_enter Try.func5, Try.ntmps5
  go_wp2
  go_loopw [8] (fun i wr => ∃ (k : Nat) (ys : List Int) (ay : Option Addr) (cy : Nat), k ≤ xs.length ∧ i = .int .i64 k ∧ ys = ofL (xs.take k) ∧ Blk wr (w.heap.size + 1) 26 #[.slice ay ys.length cy] ∧ Blk wr w.heap.size 26 #[.slice none 0 0] ∧
    Sl .u64 wr ay cy ys ∧ (∀ q, ay = some q → w.heap.size + 2 ≤ q.block) ∧ Below w.heap.size w wr) (fun i _ => xs.length - (intOf i).toNat)
  case atStart =>
    have b2 := Blk.new (w.alloc (.cells #[.slice none 0 0] 26)) 26 #[.slice none 0 0]
    rw [World.size_alloc] at b2
    exact ⟨0, [], none, 0, by omega, rfl, by simp [ofL], b2, (Blk.new _ _ _).alloc _, Rd.nil_ 1 _, (fun q hq => by cases hq), ((Below.refl w.heap.size w).alloc (Nat.le_refl _) _).alloc (by simp) _⟩
  case round =>
    obtain ⟨k, ys, ay, cy, hk, rfl, hys, hb1, hb0, hsl, hloc, hB⟩ := hrel
    have hyl : ys.length ≤ k := by rw [hys]; exact ofL_length xs k
    have HYS := Lib.hid hys; clear hys
    have p0 := hb1.cell 0
    have p1 := hb1.frozen 0
    have p2 := hb0.cell 0
    have p3 := hb0.frozen 0
    simp only [List.getElem?_toArray, List.getElem?_cons_zero] at p0 p2
    have hz1 := hb1.lt
    by_cases hlt : k < xs.length
    · obtain ⟨b, off, rfl, hbs, hc⟩ := h.at_ (by omega)
      have c0 := (hB.cell (p := ⟨b, off + k, none⟩) hbs).trans (hc k hlt)
      clear hc
      generalize hx : xs.getD k 0 = x at c0
      have HX := Lib.hid hx; clear hx
      go_wp2_with (go_at_call 7; refine (snap_With _ _ _ _ _ hsl (by omega)).mono ?_; rintro e w1 ⟨a1, cap1, rfl, hs1, hl1, hb⟩; obtain ⟨bc, bf⟩ := bcell hb)
      go_roundw
      case rel =>
        refine ⟨k + 1, withL ys x, a1, cap1, by omega, by go_num, ?_, (hb1.of_below hb).put 0 _, (hb0.of_below hb).far (by simp) _, ?_, ?_, ?_⟩
        · rw [take_snoc xs k hlt, ofL_snoc, ← HYS.out, ← HX.out]; rfl
        · refine Rd.far hs1 (fun q hq => ?_) _
          rcases hl1 with e | e
          · rw [e] at hq; have := hloc q hq; simp; omega
          · have := e q hq; simp; omega
        · intro q hq
          rcases hl1 with e | e
          · rw [e] at hq; exact hloc q hq
          · have := e q hq; omega
        · exact (below_step hB hB.size hb).setCell (by simp) _
      case measure => simp [intOf]; omega
    · go_wp2
      have e : ys = ofL xs := by rw [HYS.out, List.take_of_length_le (by omega)]
      refine bodyPost_ret (v := .agg #[.slice ay ys.length cy]) (by simp [results, Try.results5, go_sem, p2]) rfl ?_
      rw [← e]
      refine ⟨ay, cy, rfl, Rd.far hsl (fun q hq => by have := hloc q hq; simp; omega) _, fun q hq => by have := hloc q hq; omega, hB.setCell (by simp) _⟩
end Go.Proofs.Ythjefbfhpdbcjaa
