/- Joined: Picks, Tab, Wheel, TabKeys, WheelIter, WheelCollect, Word, Cell, Snap, Ref03. -/
import Derived.Test.YtonfaojmphidpaaGreatDoorZA1
import Derived.Maps.OwnSet
import Derived.Maps.Ext
import Derived.Test.YtonfaojmphidpaaGreatDoorProg
import Derived.WalkKit
import Derived.Shelf.AbstractIn
import Derived.RangeFuncSeq
import Derived.RangeFuncGives
import Derived.Sort.MapsRangeIn
import Derived.Sort.KeysCollected
import Derived.Maps.AppendAt
import Derived.OwnWalkIn
import Derived.TacticsInMore
import Derived.RegionIn
import Derived.LoopNIn
import Derived.LoopIn
import Derived.Shelf.SlIter.Collect
import Derived.WalkSpells
import Derived.WalkLawsBesides
import Derived.Laws.LoneSync

/- Package picks: whose turn it is. -/
namespace Go.Proofs.YtonfaojmphidpaaGreatDoor
open Go.RowKit
set_option linter.unusedVariables false
set_option linter.unusedSimpArgs false

def I64 (x : Int) : Prop := -9223372036854775808 ≤ x ∧ x ≤ 9223372036854775807
/-- Block g is picks: the numbers xs are left; it went in turn t times. -/
structure Pk (w : World) (g : Nat) (a : Option Addr) (c : Nat) (xs : List Int) (t : Int) : Prop where
  blk : Blk w g 192 #[.slice a xs.length c, .int .u64 t]
  sl : Sl .i64 w a c xs
  t0 : 0 ≤ t
  t1 : t < 1000000000000
  in_ : ∀ x ∈ xs, I64 x
  len : xs.length ≤ 1000000
theorem Pk.of_below {w w' : World} {g : Nat} {a : Option Addr} {c : Nat} {xs : List Int} {t : Int} (h : Pk w g a c xs t) (hb : Below w.heap.size w w') : Pk w' g a c xs t := ⟨h.blk.of_below hb, h.sl.below hb, h.t0, h.t1, h.in_, h.len⟩
/-- The slice's cells lie in another block. -/
theorem Sl.apart {w : World} {a : Option Addr} {c : Nat} {xs : List Int} (h : Sl .i64 w a c xs) {g : Nat} {t : TypeId} {x : Option Addr} {y z : Nat} {u : Int} (hb : Blk w g t #[.slice x y z, .int .u64 u]) (h0 : 0 < xs.length) : ∀ q, a = some q → q.block ≠ g := by
  intro q hq e
  obtain ⟨b, off, ha, hb', hc⟩ := h.at_ h0
  rw [ha] at hq; cases hq
  dsimp only at e; subst e
  have h1 := hb.cell off
  have h2 := hc 0 h0
  rw [Nat.add_zero, h1] at h2
  match off, h2 with
  | 0, h2 => simp at h2
  | 1, h2 => simp at h2
  | (n + 2), h2 => simp at h2
theorem Sl.keptI {w w' : World} {a : Option Addr} {c : Nat} {xs : List Int} (h : Sl .i64 w a c xs) {g : Nat} {t : TypeId} {x : Option Addr} {y z : Nat} {u : Int} (hb : Blk w g t #[.slice x y z, .int .u64 u]) (hg : w.grownBy w' (some g)) : Sl .i64 w' a c xs := by
  by_cases h0 : 0 < xs.length
  · exact Rd.keep h hg.size (r := g) (fun k hk hne => hg.block k hk (fun e => hne (Option.some.inj e))) (h.apart hb h0)
  · exact ⟨h.1, h.2.1, h.2.2.1, fun h1 => absurd h1 h0⟩

set_option maxHeartbeats 400000 in
theorem picks_New (a : Option Addr) (c : Nat) (xs : List Int) (w : World) (h : Sl .i64 w a c xs) (hin : ∀ x ∈ xs, I64 x) (hl : xs.length ≤ 1000000) :
    Calls Tryz.prog 114 #[.slice a xs.length c] w fun e w' => ∃ g a' c', e = .returned (.pointer (some ⟨g, 0, none⟩)) ∧ Pk w' g a' c' xs 0 ∧ w.heap.size ≤ g ∧ Below w.heap.size w w' := by
  go_enter Tryz.func114, Tryz.ntmps114
  go_wp2_with (go_at_call 127; refine (slices_Clone_i64 a c xs w h hl).mono ?_; rintro e w1 ⟨a', c', rfl, ho, hn, hb⟩)
  go_ret
  exact ⟨w1.heap.size, a', c', rfl, ⟨Blk.new _ _ _, Sl.below (own_rd ho) ((Below.refl _ _).alloc (Nat.le_refl _) _), Int.le_refl _, by decide, hin, hl⟩, hb.size, hb.alloc hb.size _⟩

theorem emod_tmod (x n : Int) (hn : 1 ≤ n) : x % n = if x.tmod n < 0 then x.tmod n + n else x.tmod n := by
  rcases Int.le_total 0 x with hx | hx
  · have h2 := Int.emod_nonneg x (show n ≠ 0 by omega)
    rw [Int.tmod_eq_emod_of_nonneg hx, if_neg (by omega)]
  · obtain ⟨y, rfl⟩ : ∃ y, x = -y := ⟨-x, by omega⟩
    have hy : 0 ≤ y := by omega
    have h2 := Int.emod_nonneg y (show n ≠ 0 by omega)
    have h3 := Int.emod_lt_of_pos y (show 0 < n by omega)
    have h4 : (-y) % n = (-(y % n)) % n := by
      have e : -y = -(y % n) + n * (-(y / n)) := by
        have := Int.emod_add_mul_ediv y n
        rw [Int.mul_neg]; omega
      conv => lhs; rw [e]
      rw [Int.add_mul_emod_self_left]
    rw [Int.neg_tmod, Int.tmod_eq_emod_of_nonneg hy, h4]
    generalize y % n = r at *
    by_cases h0 : r = 0
    · subst h0; simp
    · rw [if_pos (by omega)]
      have e : -r = (-r + n) + n * (-1) := by rw [Int.mul_neg]; omega
      conv => lhs; rw [e]
      rw [Int.add_mul_emod_self_left]
      exact Int.emod_eq_of_lt (by omega) (by omega)
theorem grown_set (w : World) (g i : Nat) (u : Value) : w.grownBy (w.setCell ⟨g, i, none⟩ u) (some g) :=
  ⟨rfl, rfl, rfl, by rw [size_setCell]; exact Nat.le_refl _, fun k hk hne => Below.heap_setCell w _ u k (fun e => hne (by rw [e]))⟩
theorem Sl.tail1 {k : IntKind} {w : World} {b off c : Nat} {x : Int} {xs : List Int} (h : Sl k w (some ⟨b, off, none⟩) c (x :: xs)) : Sl k w (some ⟨b, off + 1, none⟩) (c - 1) xs := by
  refine ⟨by rw [nums_length, Nat.mul_one], by have := h.le; simp at this; omega, (fun e => by cases e), fun h0 => ?_⟩
  obtain ⟨b', off', ha, hb, hc⟩ := h.2.2.2 (by simp)
  cases ha
  refine ⟨b, off + 1, rfl, hb, fun i v hi => ?_⟩
  rw [Nat.add_assoc, Nat.add_comm 1 i]; exact hc (i + 1) v (by simpa [nums] using hi)
theorem wrap64_in {x : Int} (h0 : -9223372036854775808 ≤ x) (h1 : x ≤ 9223372036854775807) : RowKit.wrap64 x = x := by unfold RowKit.wrap64; omega

set_option maxHeartbeats 400000 in
theorem picks_Next_bad (g : Nat) (n : Int) (hn : n < 1) (w : World) :
    Calls Tryz.prog 128 #[.pointer (some ⟨g, 0, none⟩), .int .i64 n] w fun e w' => e = .returned (.tuple #[.int .i64 0, .bool false]) ∧ w = w' := by
  go_enter Tryz.func128, Tryz.ntmps128
  go_wp2
  go_ret2
  exact ⟨rfl, rfl⟩
set_option maxHeartbeats 400000 in
theorem picks_Next_nil (n : Int) (w : World) :
    Calls Tryz.prog 128 #[.pointer none, .int .i64 n] w fun e w' => e = .returned (.tuple #[.int .i64 0, .bool false]) ∧ w = w' := by
  go_enter Tryz.func128, Tryz.ntmps128
  go_wp2
  go_ret2
  exact ⟨rfl, rfl⟩
set_option maxHeartbeats 1000000 in
theorem picks_Next_turn (g : Nat) (a : Option Addr) (c : Nat) (t n : Int) (w : World) (h : Pk w g a c [] t) (hn : 1 ≤ n) (hn2 : n ≤ 9223372036854775807) (ht : t + 1 < 1000000000000) :
    Calls Tryz.prog 128 #[.pointer (some ⟨g, 0, none⟩), .int .i64 n] w fun e w' => e = .returned (.tuple #[.int .i64 (t % n), .bool true]) ∧ Pk w' g a c [] (t + 1) ∧ w.grownBy w' (some g) := by
  have p0 := h.blk.cell 0
  have p1 := h.blk.cell 1
  have p2 := h.blk.frozen 1
  have h0 := h.t0
  simp only [List.getElem?_toArray, List.getElem?_cons_zero, List.getElem?_cons_succ, List.length_nil] at p0 p1
  have hr0 := Int.emod_nonneg t (show n ≠ 0 by omega)
  have hr1 := Int.emod_lt_of_pos t (show 0 < n by omega)
  have hw : RowKit.wrap64 (t % n) = t % n := wrap64_in (by omega) (by omega)
  clear hr0 hr1
  go_enter Tryz.func128, Tryz.ntmps128
  go_wp2
  go_ret2
  refine ⟨?_, ⟨(h.blk.put 1 (.int .u64 (t + 1))), h.sl.keptI h.blk (grown_set _ _ _ _), by omega, ht, h.in_, h.len⟩, grown_set _ _ _ _⟩
  show Ending.returned (.tuple #[.int .i64 (RowKit.wrap64 (t % n)), .bool true]) = _
  rw [hw]
set_option maxHeartbeats 1000000 in
theorem picks_Next_pick (g : Nat) (a : Option Addr) (c : Nat) (x : Int) (xs : List Int) (t n : Int) (w : World) (h : Pk w g a c (x :: xs) t) (hn : 1 ≤ n) (hn2 : n ≤ 9223372036854775807) :
    Calls Tryz.prog 128 #[.pointer (some ⟨g, 0, none⟩), .int .i64 n] w fun e w' => ∃ a' c', e = .returned (.tuple #[.int .i64 (x % n), .bool true]) ∧ Pk w' g a' c' xs t ∧ w.grownBy w' (some g) ∧ (∀ q', a' = some q' → ∃ q, a = some q ∧ q'.block = q.block) := by
  obtain ⟨b, off, rfl, hb, hc⟩ := h.sl.at_ (by simp)
  have c0 := hc 0 (by simp)
  have p0 := h.blk.cell 0
  have p1 := h.blk.frozen 0
  simp only [List.getElem?_toArray, List.getElem?_cons_zero, List.getElem?_cons_succ, List.length_cons, Nat.add_zero, List.getD_cons_zero] at p0 c0
  have hle := h.sl.le
  have hx := h.in_ x List.mem_cons_self
  unfold I64 at hx
  rw [emod_tmod x n hn]
  clear hc
  have HH := Lib.hid h; clear h
  by_cases hneg : x.tmod n < 0
  · rw [if_pos hneg]
    have hlt := Int.lt_tmod_of_pos x (show 0 < n by omega)
    have hw : RowKit.wrap64 (x.tmod n + n) = x.tmod n + n := wrap64_in (by omega) (by omega)
    clear hlt
    go_enter Tryz.func128, Tryz.ntmps128
    go_wp2
    · have h := HH.out
      have hxs : xs = [] := List.eq_nil_of_length_eq_zero (by simp at hle; omega)
      subst hxs
      go_ret2
      exact ⟨rfl, some ⟨b, off, none⟩, ⟨0, ⟨h.blk.put 0 _, ⟨rfl, Nat.le_refl _, (fun e => by cases e), fun h0 => absurd h0 (by simp)⟩, h.t0, h.t1, (fun y hy => by cases hy), by simp⟩⟩, grown_set _ _ _ _, fun q' hq => by cases hq; rfl⟩
    · have h := HH.out
      go_ret2
      exact ⟨rfl, some ⟨b, off + 1, none⟩, ⟨c - 1, ⟨h.blk.put 0 _, (h.sl.keptI h.blk (grown_set w g 0 _)).tail1, h.t0, h.t1, (fun y hy => h.in_ y (List.mem_cons_of_mem _ hy)), by have := h.len; simp at this; omega⟩⟩, grown_set _ _ _ _, fun q' hq => by cases hq; rfl⟩
  · rw [if_neg hneg]
    have hneg' : decide (x.tmod n < 0) = false := decide_eq_false hneg
    go_enter Tryz.func128, Tryz.ntmps128
    go_wp2
    · have h := HH.out
      have hxs : xs = [] := List.eq_nil_of_length_eq_zero (by simp at hle; omega)
      subst hxs
      go_ret2
      exact ⟨rfl, some ⟨b, off, none⟩, ⟨0, ⟨h.blk.put 0 _, ⟨rfl, Nat.le_refl _, (fun e => by cases e), fun h0 => absurd h0 (by simp)⟩, h.t0, h.t1, (fun y hy => by cases hy), by simp⟩⟩, grown_set _ _ _ _, fun q' hq => by cases hq; rfl⟩
    · have h := HH.out
      go_ret2
      exact ⟨rfl, some ⟨b, off + 1, none⟩, ⟨c - 1, ⟨h.blk.put 0 _, (h.sl.keptI h.blk (grown_set w g 0 _)).tail1, h.t0, h.t1, (fun y hy => h.in_ y (List.mem_cons_of_mem _ hy)), by have := h.len; simp at this; omega⟩⟩, grown_set _ _ _ _, fun q' hq => by cases hq; rfl⟩
end Go.Proofs.YtonfaojmphidpaaGreatDoor

/- A map from uint64 to uint64 that reads as a list of pairs, no key twice: no program in sight. -/
namespace Go.Proofs.YtonfaojmphidpaaGreatDoor
open Go Go.Maps
set_option linter.unusedVariables false

def K64 (k : Int) : Lit := .int .u64 k
theorem K64_inj {a b : Int} (h : K64 a = K64 b) : a = b := by unfold K64 at h; injection h
theorem K64_key (k : Int) : WideAt.IsKeyLit (K64 k) := by simp [K64, WideAt.IsKeyLit]
def keysOf (L : List (Int × Int)) : List Int := L.map Prod.fst
def strike (L : List (Int × Int)) (k : Int) : List (Int × Int) := L.filter fun p => p.1 != k
structure Tab (D : DataW Unit) (L : List (Int × Int)) : Prop where
  tidy : Tidy D
  nodup : (keysOf L).Nodup
  has_ : ∀ k, Maps.has D (K64 k) = decide (k ∈ keysOf L)
  at_ : ∀ p ∈ L, ∀ z, D.atKey (K64 p.1) z = .lit (K64 p.2)
  size_ : Maps.size D = L.length
theorem Tab.empty : Tab (.map []) [] := ⟨tidy_empty, List.nodup_nil, fun k => rfl, (fun p hp => absurd hp List.not_mem_nil), rfl⟩
theorem Tab.perm {D : DataW Unit} {L L' : List (Int × Int)} (h : Tab D L) (hp : L.Perm L') : Tab D L' :=
  ⟨h.tidy, (hp.map _).nodup_iff.1 h.nodup, fun k => by rw [h.has_ k]; exact decide_eq_decide.2 (hp.map _).mem_iff, fun p hm => h.at_ p (hp.mem_iff.2 hm), by rw [h.size_, hp.length_eq]⟩
theorem mem_keysOf {L : List (Int × Int)} {k : Int} : k ∈ keysOf L ↔ ∃ v, (k, v) ∈ L := by simp [keysOf]
theorem mem_strike {L : List (Int × Int)} {k : Int} {p : Int × Int} : p ∈ strike L k ↔ p ∈ L ∧ p.1 ≠ k := by simp [strike]
theorem keysOf_strike (L : List (Int × Int)) (k : Int) : keysOf (strike L k) = (keysOf L).filter fun x => x != k := by
  unfold keysOf strike
  rw [List.filter_map]; rfl
theorem strike_of_not {L : List (Int × Int)} {k : Int} (h : k ∉ keysOf L) : strike L k = L := by
  unfold strike
  rw [List.filter_eq_self]
  intro p hp
  have : p.1 ≠ k := fun e => h (by rw [← e]; exact List.mem_map_of_mem hp)
  simpa using this
theorem length_strike {L : List (Int × Int)} (h : (keysOf L).Nodup) (k : Int) : (strike L k).length + (if k ∈ keysOf L then 1 else 0) = L.length := by
  induction L with
  | nil => simp [strike, keysOf]
  | cons p L ih =>
    have hn : p.1 ∉ keysOf L ∧ (keysOf L).Nodup := by simpa [keysOf] using h
    have := ih hn.2
    by_cases e : p.1 = k
    · have h1 : strike (p :: L) k = strike L k := by simp [strike, e]
      have h2 : k ∉ keysOf L := e ▸ hn.1
      rw [if_neg h2] at this
      rw [h1, if_pos (by simp [keysOf, e])]
      simp; omega
    · have h1 : strike (p :: L) k = p :: strike L k := by simp [strike, e]
      rw [h1]
      have h3 : (k ∈ keysOf (p :: L)) ↔ k ∈ keysOf L := by simp [keysOf, Ne.symm e]
      simp only [List.length_cons, h3]; omega
theorem Tab.del {D : DataW Unit} {L : List (Int × Int)} (h : Tab D L) (k : Int) : Tab (D.del (K64 k)) (strike L k) := by
  refine ⟨h.tidy.del _, ?_, fun k' => ?_, fun p hp z => ?_, ?_⟩
  · rw [keysOf_strike]; exact h.nodup.filter _
  · by_cases e : k' = k
    · subst e; rw [has_del_same]; simp [keysOf_strike]
    · rw [has_del_other (fun e' => e (K64_inj e')), h.has_]; simp [keysOf_strike, e]
  · obtain ⟨h1, h2⟩ := mem_strike.1 hp
    rw [atKey_del_other (fun e' => h2 (K64_inj e')), h.at_ p h1]
  · have a := size_del (k := K64 k) h.tidy
    have b := length_strike h.nodup k
    rw [h.has_, h.size_] at a
    by_cases e : k ∈ keysOf L
    · simp [e] at a b; omega
    · simp [e] at a b; omega
theorem Tab.put {D : DataW Unit} {L : List (Int × Int)} (h : Tab D L) (k v : Int) : Tab (D.put (K64 k) (.lit (K64 v))) ((k, v) :: strike L k) := by
  refine ⟨h.tidy.put (K64_key k) _, ?_, fun k' => ?_, fun p hp z => ?_, ?_⟩
  · show (k :: keysOf (strike L k)).Nodup
    rw [keysOf_strike, List.nodup_cons]; exact ⟨by simp, h.nodup.filter _⟩
  · by_cases e : k' = k
    · subst e; rw [has_put_same h.tidy.isMap (K64_key _)]; simp [keysOf]
    · rw [has_put_other (fun e' => e (K64_inj e')), h.has_]
      show decide _ = decide (k' ∈ k :: keysOf (strike L k))
      simp [keysOf_strike, e]
  · rcases List.mem_cons.1 hp with rfl | hp
    · exact atKey_put_same h.tidy.isMap (K64_key _) _ _
    · obtain ⟨h1, h2⟩ := mem_strike.1 hp
      rw [atKey_put_other (fun e' => h2 (K64_inj e')), h.at_ p h1]
  · have a := size_put (k := K64 k) h.tidy (.lit (K64 v))
    have b := length_strike h.nodup k
    rw [h.has_, h.size_] at a
    rw [a, List.length_cons]
    by_cases e : k ∈ keysOf L
    · simp [e] at b ⊢; omega
    · simp [e] at b ⊢; omega
theorem Tab.miss {D : DataW Unit} {L : List (Int × Int)} (h : Tab D L) {k : Int} (hk : k ∉ keysOf L) (z : DataW Unit) : D.atKey (K64 k) z = z := atKey_of_not_has (by rw [h.has_]; simp [hk]) z
end Go.Proofs.YtonfaojmphidpaaGreatDoor

/- The wheel's map: walks of New, At, Len. -/
namespace Go.Proofs.YtonfaojmphidpaaGreatDoor
open Go.RowKit Go.Maps
set_option linter.unusedVariables false
set_option linter.unusedSimpArgs false

theorem lawU : Keyed Tryz.prog 28 := int_keyed Tryz.underlying28
theorem zeroU64 (w : World) : (zeroValue 28).run Tryz.prog w = .ok (.int .u64 0) w := by kernel_rfl
def In64 (x : Int) : Prop := 0 ≤ x ∧ x < 18446744073709551616
theorem In64.wf {x : Int} (h : In64 x) : (Lit.int .u64 x).wf = true := by
  obtain ⟨h0, h1⟩ := h
  simp [Lit.wf, IntKind.min, IntKind.max, IntKind.signed, IntKind.bits]; omega
/-- Block g is a wheel whose map, in block b, reads as L. -/
structure Wh (w : World) (g b : Nat) (L : List (Int × Int)) : Prop where
  blk : Blk w g 236 #[.map (some b)]
  map_ : ∃ D : DataW Unit, w.ownsMap Tryz.prog 28 (plainElem Tryz.prog 28) b L.length D ∧ Tab D L
  wf_ : ∀ p ∈ L, In64 p.1 ∧ In64 p.2
theorem own_tight {P : Program} {k : TypeId} {R : Value → Option (DataW Unit × List MemPlace)} {w : World} {b n : Nat} {D : DataW Unit} (h : w.ownsMap P k R b n D) : w.ownsMap P k R b (Maps.size D) D := by
  obtain ⟨es, clock, h1, h2, h3, rfl⟩ := h
  refine ⟨es, clock, h1, h2, ?_, rfl⟩
  rw [size_eq, length_read]; exact Nat.le_refl _
def valOf (L : List (Int × Int)) (k : Int) : Int := ((L.find? fun p => p.1 == k).map Prod.snd).getD 0
theorem valOf_mem {L : List (Int × Int)} (h : (keysOf L).Nodup) {k v : Int} (hm : (k, v) ∈ L) : valOf L k = v := by
  unfold valOf
  induction L with
  | nil => cases hm
  | cons p L ih =>
    have hn : p.1 ∉ keysOf L ∧ (keysOf L).Nodup := by simpa [keysOf] using h
    by_cases e : p.1 = k
    · rcases List.mem_cons.1 hm with rfl | hm
      · simp
      · exact absurd (mem_keysOf.2 ⟨v, hm⟩) (e ▸ hn.1)
    · rcases List.mem_cons.1 hm with rfl | hm
      · exact absurd rfl e
      · rw [List.find?_cons_of_neg (by simpa using e)]; exact ih hn.2 hm
theorem valOf_miss {L : List (Int × Int)} {k : Int} (h : k ∉ keysOf L) : valOf L k = 0 := by
  unfold valOf
  rw [List.find?_eq_none.2]; rfl
  intro p hp; simp; exact fun e => h (by rw [← e]; exact List.mem_map_of_mem hp)
theorem Tab.val {D : DataW Unit} {L : List (Int × Int)} (h : Tab D L) {k c : Int} (hc : D.atKey (K64 k) (.lit (.int .u64 0)) = .lit (.int .u64 c)) : c = valOf L k := by
  by_cases hk : k ∈ keysOf L
  · obtain ⟨v, hv⟩ := mem_keysOf.1 hk
    rw [valOf_mem h.nodup hv]
    have := h.at_ _ hv (.lit (.int .u64 0))
    dsimp only at this
    rw [this] at hc
    unfold K64 at hc
    injection hc with hc; injection hc with _ hc; exact hc.symm
  · rw [valOf_miss hk]
    rw [h.miss hk] at hc
    injection hc with hc; injection hc with _ hc; exact hc.symm

set_option maxHeartbeats 400000 in
theorem wheel_New (w : World) :
    Calls Tryz.prog 166 #[] w fun e w' => ∃ g b, e = .returned (.pointer (some ⟨g, 0, none⟩)) ∧ Wh w' g b [] ∧ w.heap.size ≤ g ∧ w.heap.size ≤ b ∧ Below w.heap.size w w' := by
  have hmm := @run_makeMap Tryz.prog
  go_enter Tryz.func166, Tryz.ntmps166
  go_wp2
  go_ret
  have b1 := Blk.new (w.alloc (.map #[] 0)) 236 #[.map (some w.heap.size)]
  rw [size_alloc] at b1
  refine ⟨_, w.heap.size, rfl, ⟨b1, ⟨.map [], (World.ownsMap_made w Tryz.prog _ _).alloc _, Tab.empty⟩, fun p hp => absurd hp List.not_mem_nil⟩, by simp, Nat.le_refl _, ((Below.refl w.heap.size w).alloc (Nat.le_refl _) _).alloc (by simp) _⟩

set_option maxHeartbeats 400000 in
theorem wheel_Len (g b : Nat) (L : List (Int × Int)) (w : World) (h : Wh w g b L) :
    Calls Tryz.prog 170 #[.pointer (some ⟨g, 0, none⟩)] w fun e w' => e = .returned (.int .i64 L.length) ∧ w = w' := by
  obtain ⟨D, hown, hT⟩ := h.map_
  have p0 := h.blk.cell 0
  simp only [List.getElem?_toArray, List.getElem?_cons_zero] at p0
  go_enter Tryz.func170, Tryz.ntmps170
  go_wp2_with (first
    | (at_len; refine wpList_len_own _ rfl _ 234 rfl 28 28 Tryz.underlying234 _ b L.length D rfl hown ?_)
    | go_in)
  go_ret
  exact ⟨by rw [← hT.size_]; rfl, rfl⟩
end Go.Proofs.YtonfaojmphidpaaGreatDoor

/- Keys of a table, come one by one in whatever order. -/
namespace Go.Proofs.YtonfaojmphidpaaGreatDoor
open Go Go.Maps
set_option linter.unusedVariables false

/-- What has come: no key twice; just those that are no longer to come. -/
def Coll (L : List (Int × Int)) (left : Lit → Bool) (ss : List Int) : Prop := ss.Nodup ∧ ∀ x, x ∈ ss ↔ (x ∈ keysOf L ∧ left (K64 x) = false)
theorem Coll.start {D : DataW Unit} {L : List (Int × Int)} (h : Tab D L) : Coll L (Maps.has D) [] := by
  refine ⟨List.nodup_nil, fun x => ?_⟩
  rw [h.has_ x]; by_cases hx : x ∈ keysOf L <;> simp [hx]
theorem Coll.step {D : DataW Unit} {L : List (Int × Int)} (hT : Tab D L) {left : Lit → Bool} {ss : List Int} (h : Coll L left ss) {x : Int} {y : DataW Unit} (hlk : left (K64 x) = true) (hat : ∀ zd, D.atKey (K64 x) zd = y) :
    Coll L (fun z => left z && !z.sameKey (K64 x)) (ss ++ [x]) := by
  have hhas : x ∈ keysOf L := by have := has_true_of_atKey hat; rw [hT.has_] at this; simpa using this
  have hnew : x ∉ ss := fun hx => by have := ((h.2 x).1 hx).2; rw [hlk] at this; cases this
  refine ⟨List.nodup_append.2 ⟨h.1, by simp, fun a ha b hb => by simp at hb; subst hb; exact fun e => hnew (e ▸ ha)⟩, fun y => ?_⟩
  by_cases hy : y = x
  · subst hy; simp [hhas, Lit.sameKey, K64]
  · have : (K64 y).sameKey (K64 x) = false := sameKey_ne fun e => hy (K64_inj e)
    simp [h.2 y, hy, this]
theorem Coll.perm {D : DataW Unit} {L : List (Int × Int)} (hT : Tab D L) {left : Lit → Bool} {ss : List Int} (h : Coll L left ss) (hl : ∀ kl, left kl = false) : ss.Perm (keysOf L) :=
  (List.perm_ext_iff_of_nodup h.1 hT.nodup).2 fun x => by rw [h.2 x, hl]; simp
theorem key_u64 {P : Program} {k : TypeId} (hk : P.underlying k = some (.int .u64)) {key : Value} {kl : Lit} (h : keyOf P k key = some kl) : ∃ x : Int, key = .int .u64 x ∧ kl = K64 x ∧ (Lit.int .u64 x).wf = true := by
  cases key <;> simp [keyOf, hk, mapKey] at h
  rename_i q a
  obtain ⟨⟨rfl, hw⟩, rfl⟩ := h
  exact ⟨a, rfl, rfl, hw⟩
theorem wf_In64 {x : Int} (h : (Lit.int .u64 x).wf = true) : In64 x := by
  simp [Lit.wf, IntKind.min, IntKind.max, IntKind.signed, IntKind.bits] at h
  unfold In64; omega
end Go.Proofs.YtonfaojmphidpaaGreatDoor

/- maps.Keys at uint64 keys: the iterator's walk, inside a fence. -/
namespace Go.Proofs.YtonfaojmphidpaaGreatDoor
open Go.RowKit Go.Maps Go.Sort Go.Shelf
set_option linter.unusedVariables false
set_option linter.unusedSimpArgs false

abbrev encK : Int → Value := Value.int .u64
theorem encK_inj {x y : Int} (h : encK x = encK y) : x = y := by simpa [encK] using h

set_option maxRecDepth 100000 in
set_option maxHeartbeats 1000000 in
theorem keys1_walk (F : Fence) (n : Nat) (h10 : F.fn 187) (hro : F.round = none) (hn : 1 ≤ n) (l Bm b nn : Nat) (D0 : DataW Unit) (L : List (Int × Int)) (hT : Tab D0 L) {R : Value → Option (DataW Unit × List MemPlace)} (J : List Int → World → Prop)
    (hY : ∀ pre x W, J pre W → pre.length < L.length → YieldAt F (n - 1) Tryz.prog l #[encK x] W fun e W' => e = .returned (.bool true) ∧ J (pre ++ [x]) W' ∧ KeepsWalks W W')
    (W : World) (hJ : AbidesFrom W.heap.size J) (hm : W.cell? ⟨Bm, 0, none⟩ = some (.map (some b))) (hown : W.ownsMap Tryz.prog 28 R b nn D0) (h0 : J [] W) :
    CallsIn F n Tryz.prog 187 #[.func (.yield l) #[] #[], .pointer (some ⟨Bm, 0, none⟩)] W fun e W' => (∃ v, e = .returned v) ∧ ∃ ss : List Int, ss.Perm (keysOf L) ∧ J ss W' := by
  refine callsIn_of_wp Tryz.func187 rfl h10 ?_ hro
  simp only [Tryz.ntmps187, List.size_toArray, List.length_cons, List.length_nil, Nat.reduceAdd, Nat.reduceSub, Array.replicate_succ, Array.replicate_zero, List.push_toArray, List.append_toArray, List.nil_append, List.cons_append]
  gi_wp2_with (first
    | (gi_at_range; refine wpListIn_range_own _ rfl _ 234 rfl 28 28 lawU Tryz.underlying234 _ b nn _ rfl hown ?_; intro w0 hrg0 hg0 hs0)
    | gi_in)
  go_frame
  gi_loopw [3] (fun _ wr => ∃ (left : Lit → Bool) (cnt : Nat) (ss : List Int), wr.ranges Tryz.prog 28 R b W.heap.size nn D0 left cnt ∧ ss.length + cnt ≤ Maps.size D0 ∧ Coll L left ss ∧ J ss wr)
    (fun _ wr => wr.rangeLeft b W.heap.size)
  case atStart =>
    exact ⟨_, _, [], hrg0, by simp, Coll.start hT, hJ [] W w0 none h0 hg0 (fun r e => by cases e)⟩
  case round =>
    obtain ⟨left, cnt, ss, hrg, hcs, hC, hJs⟩ := hrel
    have hsz := hT.size_
    gi_wp2_with (first
      | (gi_at_next; refine wpListIn_next_ranges _ rfl _ rfl 28 lawU R encK id (fun key kl hk => by obtain ⟨x, hx, _⟩ := key_u64 Tryz.underlying28 hk; exact ⟨x, hx⟩) (fun v _ _ => ⟨v, rfl⟩) b W.heap.size nn _ _ _ rfl hrg ?_ ?_)
      | gi_in)
    · intro hc0 hl0
      gi_wp2
      go_end0
      exact ⟨⟨_, rfl⟩, ss, hC.perm hT hl0, hJs⟩
    · intro x c kl yd yp w2 cnt2 hkey hlk hv hat hrg2 hlt hg2 hs2 hen
      obtain ⟨x', ex, rfl, _⟩ := key_u64 Tryz.underlying28 hkey
      obtain rfl : x = x' := encK_inj ex
      have hJ2 : J ss w2 := hJ ss wr w2 (some W.heap.size) hJs hg2 (fun r e => by cases e; exact ⟨Nat.le_refl _, hrg.iter_walk⟩)
      obtain ⟨fn, tmps, assign, body, hy, hR⟩ := hY ss x w2 hJ2 (by omega)
      clear hs2 hsz
      gi_wp2
      refine hR.mono ?_
      rintro e W3 ⟨rfl, hJ3, hk3⟩
      gi_wp2
      have hrg3 := hrg2.of_walks hk3
      go_roundw
      case rel => exact ⟨_, cnt2, ss ++ [x], hrg3, by simp; omega, hC.step hT hlk hat, hJ3⟩
      case measure => rw [hrg3.left_eq, hrg.left_eq]; exact hlt

set_option maxHeartbeats 1000000 in
theorem keys_walk (F : Fence) (n : Nat) (h7 : F.fn 180) (hro : F.round = none) (mb : Option Nat) (w : World) :
    CallsIn F n Tryz.prog 180 #[.map mb] w fun e w' => e = .returned (.func (.func 187) #[] #[.pointer (some ⟨w.heap.size, 0, none⟩)]) ∧ w' = w.alloc (.cells #[.map mb] 234) := by
  refine callsIn_of_wp Tryz.func180 rfl h7 ?_ hro
  simp only [Tryz.ntmps180, List.size_toArray, List.length_cons, List.length_nil, Nat.reduceAdd, Nat.reduceSub, Array.replicate_succ, Array.replicate_zero, List.push_toArray, List.append_toArray, List.nil_append, List.cons_append]
  gi_wp2
  go_ret
  exact ⟨rfl, rfl⟩
theorem keys_gives (F : Fence) (n : Nat) (h10 : F.fn 187) (hro : F.round = none) (hn : 1 ≤ n) (Bm b nn : Nat) (D0 : DataW Unit) (L : List (Int × Int)) (hT : Tab D0 L) {R : Value → Option (DataW Unit × List MemPlace)} (w : World) (hBm : Bm < w.heap.size)
    (hm : w.cell? ⟨Bm, 0, none⟩ = some (.map (some b))) (hown : w.ownsMap Tryz.prog 28 R b nn D0) :
    SeqGives F n Tryz.prog 187 #[.pointer (some ⟨Bm, 0, none⟩)] encK (fun ss => ss.Perm (keysOf L)) L.length w := fun l J W hW hJ hY h0 => by
  have hown' : W.ownsMap Tryz.prog 28 R b nn D0 := by
    have hbl := hown.lt
    obtain ⟨es, clock, hb, Ft, hs, hD⟩ := hown
    exact ⟨es, clock, (hW.block b hbl).trans hb, Ft, hs, hD⟩
  exact keys1_walk F n h10 hro hn l Bm b nn D0 L hT J hY W hJ ((hW.cell (p := ⟨Bm, 0, none⟩) hBm).trans hm) hown' h0
end Go.Proofs.YtonfaojmphidpaaGreatDoor

/- slices.AppendSeq, slices.Collect of an iterator that gives uint64 keys. -/
namespace Go.Proofs.YtonfaojmphidpaaGreatDoor
open Go.RowKit Go.Maps Go.Sort Go.Shelf
set_option linter.unusedVariables false
set_option linter.unusedSimpArgs false

def apAssign : Code := (Code.region 2 #[{ dst := some 5, op := Op.assign (Operand.tmp 7), type := 28, pos := "iter.go:51", after := #[], guard := none }] false)
def apBody : Code := (Code.block 1 (Code.region 3 #[{ dst := some 8, op := Op.load (39) (Operand.tmp 2), type := 39, pos := "iter.go:52", after := #[], guard := none }, { dst := some 9, op := Op.move (Operand.tmp 5), type := 28, pos := "iter.go:52", after := #[], guard := none }, { dst := some 10, op := Op.buildSlice (39) 1 #[(0, Operand.tmp 9)], type := 39, pos := "iter.go:52", after := #[{ on := 1, ground := Ground.data }], guard := none }, { dst := some 11, op := Op.call { callee := Callee.builtin Builtin.append, args := #[Operand.tmp 8, Operand.tmp 10], argTypes := #[39, 39] }, type := 39, pos := "iter.go:52", after := #[{ on := 0, ground := Ground.data }, { on := 2, ground := Ground.data }], guard := none }, { dst := none, op := Op.store (39) (Operand.tmp 2) (Operand.tmp 11), type := 0, pos := "iter.go:52", after := #[{ on := 3, ground := Ground.data }, { on := 3, ground := Ground.chain }, { on := 0, ground := Ground.phase }, { on := 1, ground := Ground.phase }, { on := 2, ground := Ground.phase }, { on := 3, ground := Ground.phase }], guard := none }] false))
def apRec (fn : FuncId) (sv : Value) (Bs D : Nat) (st : LoopState) (pend : Option Code) : Loop :=
  { state := st, pending := pend, fn, tmps := #[.slice none 0 0, sv, .pointer (some ⟨Bs, 0, none⟩), undef, .slice none 0 0, undef, sv, undef, undef, undef, undef, undef, undef], params := #[7], assign := apAssign, body := apBody, defers := D }

structure ApAt (w0 : World) (fn : FuncId) (sv : Value) (Bs l D : Nat) (ss : List Int) (W : World) : Prop where
  box : ∃ v, W.heap[Bs]? = some (.cells #[v] (39) (0, 0)) ∧ W.ownsRow w0.heap.size (28) 1 v ss.length (ss.map encK) ∧ (v = .slice none 0 0 ↔ ss = [])
  L : W.heap[l]? = some (.loop (apRec fn sv Bs D .ready none))
  K : W.heap[D]? = some (.deferred (some []))
  below : Below w0.heap.size w0 W

theorem ap_abides (w0 : World) (fn : FuncId) (sv : Value) (Bs l D B : Nat) (hB : w0.heap.size ≤ B) : AbidesFrom B (ApAt w0 fn sv Bs l D) := fun s W W' row h hg hrow => by
  have hrow' : ∀ r, row = some r → ∃ o : Obj, W.heap[r]? = some o ∧ o.isWalk = true := fun r e => (hrow r e).2
  obtain ⟨v, hv, hr, hn⟩ := h.box
  exact ⟨⟨v, (grownBy_keeps hg hrow' hv rfl).trans hv, ownsRow_abides_a hr hg hrow', hn⟩, (grownBy_keeps hg hrow' h.L rfl).trans h.L, (grownBy_keeps hg hrow' h.K rfl).trans h.K,
    h.below.grown hg h.below.size (fun k e => Nat.le_trans hB (hrow k e).1)⟩

set_option maxRecDepth 100000 in
set_option maxHeartbeats 2000000 in
theorem apYield (F : Fence) (m : Nat) (w0 : World) (fn : FuncId) (hfn : F.fn fn) (sv : Value) (Bs l D : Nat) (hBl : Bs ≠ l) (hDl : D ≠ l) (hDB : D ≠ Bs) (h0B : w0.heap.size ≤ Bs) (h0l : w0.heap.size ≤ l)
    (N : Nat) (hN : N ≤ maxLen) (hNb : N * 8 ≤ 140737488355328) (ss : List Int) (x : Int) (W : World) (h : ApAt w0 fn sv Bs l D ss W) (hlen : ss.length < N) :
    YieldAt F m Tryz.prog l #[encK x] W fun e W' => e = .returned (.bool true) ∧ ApAt w0 fn sv Bs l D (ss ++ [x]) W' ∧ KeepsWalks W W' := by
  have hne : (39 : TypeId) ≠ 28 := by decide
  obtain ⟨i0, hi, hz0, hz1, hz2⟩ := info_parts Tryz.infoU
  obtain ⟨v, hv, hrow, _⟩ := h.box
  refine ⟨fn, #[.slice none 0 0, sv, .pointer (some ⟨Bs, 0, none⟩), undef, .slice none 0 0, undef, sv, encK x, undef, undef, undef, undef, undef], apAssign, apBody, by simpa [apRec] using run_yield (P := Tryz.prog) (args := #[encK x]) h.L rfl, roundIn_of_wpIn hfn ?_⟩
  have hl : l < W.heap.size := (Array.getElem?_eq_some_iff.1 h.L).1
  have hbr := run_beginRound (P := Tryz.prog) h.L rfl
  obtain ⟨W2, hW2⟩ : ∃ W2, W.putObj l (.loop { apRec fn sv Bs D .ready none with state := .busy }) = W2 := ⟨_, rfl⟩
  rw [hW2] at hbr
  have hg2 : W.grownBy W2 (some l) := by rw [← hW2]; exact grownBy_putObj_a _ _ _
  have hk2 : KeepsWalks W W2 := by rw [← hW2]; exact KeepsWalks.putObj _ h.L rfl
  have hv2 : W2.heap[Bs]? = some (.cells #[v] (39) (0, 0)) := by rw [← hW2]; exact (World.putObj_heap_other hBl).trans hv
  have hK2 : W2.heap[D]? = some (.deferred (some [])) := by rw [← hW2]; exact (World.putObj_heap_other hDl).trans h.K
  have hL2 : W2.heap[l]? = some (.loop { apRec fn sv Bs D .ready none with state := .busy }) := by rw [← hW2]; exact World.putObj_heap_same hl
  have hrow2 : W2.ownsRow w0.heap.size (28) 1 v ss.length (ss.map encK) := hrow.kept hg2 (ownsRow_ne_a hrow h.L (fun cur e => by first | cases e | exact hne (Obj.cells.inj e).2.1))
  have hb2 : Below w0.heap.size w0 W2 := h.below.grown hg2 h.below.size (fun k e => by cases e; exact h0l)
  obtain ⟨hc2, hf2⟩ := cell_of_box_a hv2
  have hBlt : Bs < W2.heap.size := (Array.getElem?_eq_some_iff.1 hv2).1
  have hl2 : l < W2.heap.size := (Array.getElem?_eq_some_iff.1 hL2).1
  have hDlt : D < W2.heap.size := (Array.getElem?_eq_some_iff.1 hK2).1
  have ne_of : ∀ {j : Nat} {o : Obj}, W2.heap[j]? = some o → (∀ cur, o ≠ .cells cur (28) (0, 0)) → some j ≠ v.ownBlock := fun hj hno => by
    rcases ownsRow_ne_a hrow2 hj hno with e | e
    · rw [e]; simp
    · exact fun e' => e e'.symm
  clear hW2
  unfold apAssign
  gi_wp2_with gi_round_op_a
  unfold apBody
  gi_wp2_with (first
    | (gi_at_builtin; refine wpListIn_append_own _ rfl _ _ (39) rfl w0.heap.size (28) i0 (.int .u64 0) 1 8 Tryz.underlying39 hi hz0 hz1 hz2 rfl (by decide) _ _ _ rfl (hrow2.alloc _) ⟨W2.heap.size, 0, none⟩ 1 1 [encK x] rfl rfl (cell_one_new _ _ _) (by simp [Value.oneCell', encK]) (by omega) (by omega) (by have := hb2.size; simp; omega) ?_; intro v' w3 hown' hg3 hnil3
       have hv3 : w3.heap[Bs]? = some (.cells #[v] (39) (0, 0)) := (hg3.block Bs (by simp; omega) (ne_of hv2 (fun cur e => by first | cases e | exact hne (Obj.cells.inj e).2.1))).trans ((Below.heap_alloc _ _ Bs hBlt).trans hv2)
       obtain ⟨hc3, hf3⟩ := cell_of_box_a hv3
       obtain ⟨g', cap', cur', rfl, hbase', hgb', hr1, hr2, hr3, hr4⟩ : ∃ g' cap' cur', v' = .slice (some ⟨g', 0, none⟩) (ss.length + 1) cap' ∧ w0.heap.size ≤ g' ∧ w3.heap[g']? = some (.cells cur' (28) (0, 0)) ∧ ss.length + 1 ≤ cap' ∧ cap' ≤ maxLen ∧ cur'.size = cap' * 1 ∧ cur'.toList.take ((ss.length + 1) * 1) = ss.map encK ++ [encK x] := by
         rcases hown'.2 with ⟨_, h0⟩ | h'
         · exact absurd h0 (by omega)
         · exact h'
       go_frame)
    | gi_round_op_a)
  have hg3' : (W2.alloc (.cells #[encK x] (28))).grownBy w3 v.ownBlock := hg3
  have hL3 : w3.heap[l]? = some (.loop { apRec fn sv Bs D .ready none with state := .busy }) := (hg3'.block l (by simp; omega) (ne_of hL2 (fun cur e => by first | cases e | exact hne (Obj.cells.inj e).2.1))).trans ((Below.heap_alloc _ _ l hl2).trans hL2)
  have hK3 : w3.heap[D]? = some (.deferred (some [])) := (hg3'.block D (by simp; omega) (ne_of hK2 (fun cur e => by first | cases e | exact hne (Obj.cells.inj e).2.1))).trans ((Below.heap_alloc _ _ D hDlt).trans hK2)
  obtain ⟨w4, hw4⟩ : ∃ w4, w3.setCell ⟨Bs, 0, none⟩ (.slice (some ⟨g', 0, none⟩) (ss.length + 1) cap') = w4 := ⟨_, rfl⟩
  rw [hw4]
  have hg4 : w3.grownBy w4 (some Bs) := by rw [← hw4]; exact grownBy_setCell0_a _ _ _
  have hv4 : w4.heap[Bs]? = some (.cells #[.slice (some ⟨g', 0, none⟩) (ss.length + 1) cap'] (39) (0, 0)) := by rw [← hw4]; exact heap_setCell_box_a _ hv3
  have hL4 : w4.heap[l]? = some (.loop { apRec fn sv Bs D .ready none with state := .busy }) := (hg4.block l (Array.getElem?_eq_some_iff.1 hL3).1 (fun e => hBl (by cases e; rfl))).trans hL3
  have hK4 : w4.heap[D]? = some (.deferred (some [])) := (hg4.block D (Array.getElem?_eq_some_iff.1 hK3).1 (fun e => hDB (by cases e; rfl))).trans hK3
  have hrow4 := hown'.kept hg4 (ownsRow_ne_a hown' hv3 (fun cur e => by first | cases e | exact hne (Obj.cells.inj e).2.1))
  have hl4 : l < w4.heap.size := (Array.getElem?_eq_some_iff.1 hL4).1
  have hb3 : Below w0.heap.size w0 w3 := (hb2.alloc hb2.size _).grown hg3' (by have := hb2.size; simp; omega) (fun k e => (hrow2.lt k e).1)
  have hb4 : Below w0.heap.size w0 w4 := hb3.grown hg4 hb3.size (fun k e => by cases e; exact h0B)
  have hk4 : KeepsWalks W w4 := ((hk2.trans (KeepsWalks.alloc _ _)).trans (KeepsWalks.of_grownBy hg3' (ownsRow_not_walk_a (hrow2.alloc _)))).trans (by rw [← hw4]; exact KeepsWalks.setCell _ _ _)
  clear hw4
  refine ⟨_, _, run_endRound none hL4, rfl, ⟨⟨_, (World.putObj_heap_other hBl).trans hv4, ?_, by simp⟩, World.putObj_heap_same hl4, (World.putObj_heap_other hDl).trans hK4, hb4.grown (grownBy_putObj_a _ _ _) hb4.size (fun k e => by cases e; exact h0l)⟩, hk4.trans (KeepsWalks.putObj _ hL4 rfl)⟩
  have := hrow4.kept (grownBy_putObj_a w4 l (.loop { { apRec fn sv Bs D .ready none with state := .busy } with state := if (none : Option Code).isNone then .ready else .done, pending := none })) (ownsRow_ne_a hrow4 hL4 (fun cur e => by first | cases e | exact hne (Obj.cells.inj e).2.1))
  simpa using this


set_option maxRecDepth 100000 in
set_option maxHeartbeats 2000000 in
theorem appendSeq_in (F : Fence) (n : Nat) (h11 : F.fn (192)) (hro : F.round = none) (hn : 2 ≤ n) (g : Nat) (lb : Array Value) (hFg : F.fn g) (eg : ∀ args w, (callFunc g args).run Tryz.prog w = .ok (.enter g args) w)
    (S : List Int → Prop) (N : Nat) (hN : N ≤ maxLen) (hNb : N * 8 ≤ 140737488355328) (w : World) (hseq : SeqGives F (n - 1) Tryz.prog g lb encK S N w) :
    CallsIn F n Tryz.prog (192) #[.slice none 0 0, .func (.func g) #[] lb] w fun e w' => ∃ (v : Value) (ss : List Int), e = .returned v ∧ S ss ∧ w'.ownsRow w.heap.size (28) 1 v ss.length (ss.map encK) ∧ (v = .slice none 0 0 ↔ ss = []) ∧ Below w.heap.size w w' := by
  have h1 : 1 ≤ n := by omega
  have hne : (39 : TypeId) ≠ 28 := by decide
  refine callsIn_of_wp_marks Tryz.func192 rfl h11 ?_ hro
  simp only [Tryz.ntmps192, List.size_toArray, List.length_cons, List.length_nil, Nat.reduceAdd, Nat.reduceSub, Array.replicate_succ, Array.replicate_zero, List.push_toArray, List.append_toArray, List.nil_append, List.cons_append]
  gi_wp2
  refine wpIn_rangeFunc ?_
  intro fn hfn
  rw [hro]
  obtain ⟨W0, hW0⟩ : ∃ W0, w.alloc (.cells #[.slice none 0 0] (39)) = W0 := ⟨_, rfl⟩
  have hs0 : W0.heap.size = w.heap.size + 1 := by rw [← hW0]; simp
  have hv0 : W0.heap[w.heap.size]? = some (.cells #[.slice none 0 0] (39) (0, 0)) := by rw [← hW0]; exact World.alloc_heap_new w _
  have hb0 : Below w.heap.size w W0 := by rw [← hW0]; exact (Below.refl _ w).alloc (Nat.le_refl _) _
  rw [hW0]
  obtain ⟨W1, hW1⟩ : ∃ W1, (W0.alloc (.deferred (some []))).alloc (.loop (apRec fn (.func (.func g) #[] lb) w.heap.size W0.heap.size .ready none)) = W1 := ⟨_, rfl⟩
  have hold : ∀ k, k < W0.heap.size → W1.heap[k]? = W0.heap[k]? := fun k hk => by
    rw [← hW1]; exact (Below.heap_alloc _ _ k (by simp; omega)).trans (Below.heap_alloc _ _ k hk)
  have hb1 : Below w.heap.size w W1 := by rw [← hW1]; exact (hb0.alloc hb0.size _).alloc (by have := hb0.size; simp; omega) _
  have hs1 : W1.heap.size = W0.heap.size + 2 := by rw [← hW1]; simp
  have hM : ApAt w fn (.func (.func g) #[] lb) w.heap.size (W0.heap.size + 1) W0.heap.size [] W1 :=
    ⟨⟨_, (hold w.heap.size (by omega)).trans hv0, ⟨rfl, .inl ⟨rfl, rfl⟩⟩, by simp⟩,
     by rw [← hW1]; have := World.alloc_heap_new (W0.alloc (.deferred (some []))) (.loop (apRec fn (.func (.func g) #[] lb) w.heap.size W0.heap.size .ready none)); rwa [World.size_alloc] at this,
     by rw [← hW1]; exact (Below.heap_alloc _ _ _ (by simp)).trans (World.alloc_heap_new W0 _), hb1⟩
  refine ⟨W0.heap.size + 1, [{ target := .collected W0.heap.size, args := #[] }], W1, { target := .fn (.func g) lb, args := #[.func (.yield (W0.heap.size + 1)) #[] #[]] }, W1, g,
    #[.func (.yield (W0.heap.size + 1)) #[] #[]] ++ lb, W1, ?_, ?_, ?_, ?_, fun _ => h1, ?_⟩
  · rw [← hW1]; exact run_enterLoop_outer _ _ _ _ _
  · simp [resolve, go_sem]
  · intro f' hf'; simp [Target.leads] at hf'; subst hf'; exact hFg
  · simp [invoke, go_sem, eg]
  · refine (hseq (W0.heap.size + 1) (ApAt w fn (.func (.func g) #[] lb) w.heap.size (W0.heap.size + 1) W0.heap.size) W1 hb1 (ap_abides _ _ _ _ _ _ _ hb1.size)
      (fun pre x W hJ hl => apYield F (n - 1 - 1) w fn hfn _ w.heap.size (W0.heap.size + 1) W0.heap.size (by omega) (by omega) (by omega) (Nat.le_refl _) (by omega) N hN hNb pre x W hJ hl) hM).mono ?_
    rintro e W2 ⟨⟨v0, rfl⟩, ss, hS, h2⟩
    obtain ⟨v, hv, hrow, hnil⟩ := h2.box
    have hend := run_endLoop (P := Tryz.prog) h2.L (by simp [apRec])
    obtain ⟨W3, hW3⟩ : ∃ W3, W2.putObj (W0.heap.size + 1) (.loop { apRec fn (.func (.func g) #[] lb) w.heap.size W0.heap.size .ready none with state := .exhausted }) = W3 := ⟨_, rfl⟩
    rw [hW3] at hend
    have hg3 : W2.grownBy W3 (some (W0.heap.size + 1)) := by rw [← hW3]; exact grownBy_putObj_a _ _ _
    have hv3 : W3.heap[w.heap.size]? = some (.cells #[v] (39) (0, 0)) := by rw [← hW3]; exact (World.putObj_heap_other (by omega)).trans hv
    have hK3 : W3.heap[W0.heap.size]? = some (.deferred (some [])) := by rw [← hW3]; exact (World.putObj_heap_other (by omega)).trans h2.K
    have hrow3 := hrow.kept hg3 (ownsRow_ne_a hrow h2.L (fun cur e => by first | cases e | exact hne (Obj.cells.inj e).2.1))
    have hb3 : Below w.heap.size w W3 := h2.below.grown hg3 h2.below.size (fun k e => by cases e; omega)
    obtain ⟨hc3, hf3⟩ := cell_of_box_a hv3
    clear hW3
    refine ⟨none, W3, hend, ?_⟩
    gi_wp2
    rw [← hs0]
    refine ⟨by simp, .inl ⟨_, _, rfl, run_takeDeferred hK3, ?_⟩⟩
    exact ⟨_, results_tmp rfl _ _ _, v, ss, rfl, hS, hrow3.kept (grownBy_putObj_a _ _ _) (ownsRow_ne_a hrow3 hK3 (fun cur e => by first | cases e | exact hne (Obj.cells.inj e).2.1)), hnil, hb3.grown (grownBy_putObj_a _ _ _) hb3.size (fun k e => by cases e; omega)⟩


set_option maxHeartbeats 1000000 in
theorem collect_in (F : Fence) (n : Nat) (h8 : F.fn (185)) (h11 : F.fn (192)) (hro : F.round = none) (hn : 3 ≤ n) (g : Nat) (lb : Array Value) (hFg : F.fn g) (eg : ∀ args w, (callFunc g args).run Tryz.prog w = .ok (.enter g args) w)
    (S : List Int → Prop) (N : Nat) (hN : N ≤ maxLen) (hNb : N * 8 ≤ 140737488355328) (w : World) (hseq : SeqGives F (n - 1 - 1) Tryz.prog g lb encK S N w) :
    CallsIn F n Tryz.prog (185) #[.func (.func g) #[] lb] w fun e w' => ∃ (v : Value) (ss : List Int), e = .returned v ∧ S ss ∧ w'.ownsRow w.heap.size (28) 1 v ss.length (ss.map encK) ∧ (v = .slice none 0 0 ↔ ss = []) ∧ Below w.heap.size w w' := by
  have h1 : 1 ≤ n := by omega
  have e11 : ∀ args w, (callFunc (192) args).run Tryz.prog w = .ok (.enter (192) args) w := enters_of Tryz.func192 (by kernel_rfl) rfl
  refine callsIn_of_wp Tryz.func185 rfl h8 ?_ hro
  simp only [Tryz.ntmps185, List.size_toArray, List.length_cons, List.length_nil, Nat.reduceAdd, Nat.reduceSub, Array.replicate_succ, Array.replicate_zero, List.push_toArray, List.append_toArray, List.nil_append, List.cons_append]
  gi_wp2_with (gi_at_fn (192); refine (appendSeq_in F (n - 1) h11 hro (by omega) g lb hFg eg S N hN hNb _ hseq).mono ?_; rintro e w' ⟨v, ss, rfl, hS, hrow, hnil, hb⟩)
  go_ret
  exact ⟨v, ss, rfl, hS, hrow, hnil, hb⟩

end Go.Proofs.YtonfaojmphidpaaGreatDoor

/- The contracts of package word and of hackneyref01: what each function of layer 1 returns, the world left alone. -/
namespace Go.Proofs.YtonfaojmphidpaaGreatDoor
open Go.RowKit
set_option linter.unusedVariables false

def wOf (s v : Int) : Int := 4 * (v % 4611686018427387904) + s % 4
def wMay (f t : Int) : Bool := (f == 0 && (t == 1 || t == 2)) || (f == 1 && (t == 0 || t == 3)) || (f == 2 && (t == 0 || t == 1 || t == 3))
def wTo (w t : Int) : Int := if wMay (w % 4) t then wOf t (w / 4 + 1) else w
theorem wOf_range (s v : Int) : 0 ≤ wOf s v ∧ wOf s v < 18446744073709551616 := by unfold wOf; omega
theorem wTo_range (w t : Int) (h0 : 0 ≤ w) (h1 : w < 18446744073709551616) : 0 ≤ wTo w t ∧ wTo w t < 18446744073709551616 := by
  unfold wTo; split
  · exact wOf_range _ _
  · exact ⟨h0, h1⟩

theorem ret_u64 {k : IntKind} {a b : Int} (h : a = b) : Ending.returned (.int k a) = .returned (.int k b) := by rw [h]

set_option maxHeartbeats 400000 in
theorem word_State (a : Int) (w : World) (h0 : 0 ≤ a) (h1 : a < 18446744073709551616) :
    Calls Tryz.prog 221 #[.int .u64 a] w fun e w' => e = .returned (.int .i64 (a % 4)) ∧ w = w' := by
  have h := and3 a h0 h1
  go_enter Tryz.func221, Tryz.ntmps221
  go_wp2
  go_ret
  exact ⟨rfl, rfl⟩

set_option maxHeartbeats 400000 in
theorem word_Version (a : Int) (w : World) (h0 : 0 ≤ a) (h1 : a < 18446744073709551616) :
    Calls Tryz.prog 223 #[.int .u64 a] w fun e w' => e = .returned (.int .u64 (a / 4)) ∧ w = w' := by
  go_enter Tryz.func223, Tryz.ntmps223
  go_wp2
  go_ret
  exact ⟨rfl, rfl⟩

set_option maxHeartbeats 400000 in
theorem word_Of (s v : Int) (w : World) (h0 : 0 ≤ v) (h1 : v < 18446744073709551616) :
    Calls Tryz.prog 222 #[.int .i64 s, .int .u64 v] w fun e w' => e = .returned (.int .u64 (wOf s v)) ∧ w = w' := by
  go_enter Tryz.func222, Tryz.ntmps222
  go_wp2
  go_ret
  refine ⟨ret_u64 ?_, rfl⟩
  rw [and3 _ (by rw [u64_wrap]; omega) (by rw [u64_wrap]; omega), or4 _ _ (by omega) (by omega), u64_wrap]
  unfold wOf; omega

set_option maxHeartbeats 400000 in
theorem word_May (s t : Int) (w : World) :
    Calls Tryz.prog 220 #[.int .i64 s, .int .i64 t] w fun e w' => e = .returned (.bool (wMay s t)) ∧ w = w' := by
  go_enter Tryz.func220, Tryz.ntmps220
  go_wp2
  all_goals (go_ret; exact ⟨congrArg Ending.returned (congrArg Value.bool (by simp_all [wMay])), rfl⟩)

set_option maxHeartbeats 400000 in
theorem word_To (a s : Int) (w : World) (h0 : 0 ≤ a) (h1 : a < 18446744073709551616) :
    Calls Tryz.prog 213 #[.int .u64 a, .int .i64 s] w fun e w' => e = .returned (.tuple #[.int .u64 (wTo a s), .bool (wMay (a % 4) s)]) ∧ w = w' := by
  by_cases hm : wMay (a % 4) s = true
  · go_enter Tryz.func213, Tryz.ntmps213
    go_wp2_with (first | (go_at_call 221; refine (word_State _ _ h0 h1).mono ?_; rintro e w' ⟨rfl, rfl⟩) | (go_at_call 220; refine (word_May _ _ _).mono ?_; rintro e w' ⟨rfl, rfl⟩) | (go_at_call 223; refine (word_Version _ _ h0 h1).mono ?_; rintro e w' ⟨rfl, rfl⟩) | (go_at_call 222; refine (word_Of _ _ _ (by omega) (by omega)).mono ?_; rintro e w' ⟨rfl, rfl⟩))
    go_ret2
    exact ⟨by simp [wTo, hm], rfl⟩
  · have hm : wMay (a % 4) s = false := by simpa using hm
    go_enter Tryz.func213, Tryz.ntmps213
    go_wp2_with (first | (go_at_call 221; refine (word_State _ _ h0 h1).mono ?_; rintro e w' ⟨rfl, rfl⟩) | (go_at_call 220; refine (word_May _ _ _).mono ?_; rintro e w' ⟨rfl, rfl⟩))
    go_ret2
    exact ⟨by simp [wTo, hm], rfl⟩

def wName (s : Int) : ByteArray :=
  if s == 0 then ⟨#[102, 114, 101, 101]⟩ else if s == 1 then ⟨#[105, 110, 117, 115, 101]⟩ else if s == 2 then ⟨#[114, 101, 115, 101, 114, 118, 101, 100]⟩
  else if s == 3 then ⟨#[114, 101, 109, 111, 118, 101, 100]⟩ else ⟨#[]⟩
set_option maxHeartbeats 400000 in
theorem law01_awake (w : World) :
    Calls Tryz.prog 216 #[] w fun e w' => e = .returned (.bool true) ∧ w = w' := by
  have e1 : wOf 0 5 = 20 := by decide
  have e2 : wTo 20 1 = 25 := by decide
  have e3 : wMay (20 % 4) 1 = true := by decide
  go_enter Tryz.func216, Tryz.ntmps216
  go_wp2_with (first | (go_at_call 222; refine (word_Of _ _ _ (by omega) (by omega)).mono ?_; rintro e w' ⟨rfl, rfl⟩) | (go_at_call 213; refine (word_To _ _ _ (by omega) (by omega)).mono ?_; rintro e w' ⟨rfl, rfl⟩))
  go_ret
  exact ⟨rfl, rfl⟩
end Go.Proofs.YtonfaojmphidpaaGreatDoor

/- The contracts of package cell: a block of one cell that holds the word. -/
namespace Go.Proofs.YtonfaojmphidpaaGreatDoor
open Go.RowKit
set_option linter.unusedVariables false

set_option maxHeartbeats 400000 in
theorem atomic_Store (b : Nat) (u v : Int) (w : World) (hc : w.cell? ⟨b, 0, none⟩ = some (.int .u64 u)) (hf : w.frozen? ⟨b, 0, none⟩ = false) :
    Calls Tryz.prog 212 #[.pointer (some ⟨b, 0, none⟩), .int .u64 v] w fun e w' => e = .returned (.tuple #[]) ∧ w.setCell ⟨b, 0, none⟩ (.int .u64 v) = w' := by
  have hcas := run_call_store (P := Tryz.prog) Tryz.func219 (by kernel_rfl) (by kernel_rfl) (by kernel_rfl) (by kernel_rfl) (k := .u64) (y := v) hc hf
  go_enter Tryz.func212, Tryz.ntmps212
  go_wp2
  go_end0
  exact ⟨rfl, rfl⟩
set_option maxHeartbeats 400000 in
theorem atomic_Load (b : Nat) (u : Int) (w : World) (hc : w.cell? ⟨b, 0, none⟩ = some (.int .u64 u)) :
    Calls Tryz.prog 225 #[.pointer (some ⟨b, 0, none⟩)] w fun e w' => e = .returned (.int .u64 u) ∧ w = w' := by
  have hcas := run_call_load (P := Tryz.prog) Tryz.func226 (by kernel_rfl) (by kernel_rfl) (by kernel_rfl) .u64 (by kernel_rfl) hc
  go_enter Tryz.func225, Tryz.ntmps225
  go_wp2
  go_ret
  exact ⟨rfl, rfl⟩
set_option maxHeartbeats 400000 in
theorem atomic_Cas_hit (b : Nat) (u v : Int) (w : World) (hc : w.cell? ⟨b, 0, none⟩ = some (.int .u64 u)) (hf : w.frozen? ⟨b, 0, none⟩ = false) :
    Calls Tryz.prog 214 #[.pointer (some ⟨b, 0, none⟩), .int .u64 u, .int .u64 v] w fun e w' => e = .returned (.bool true) ∧ w.setCell ⟨b, 0, none⟩ (.int .u64 v) = w' := by
  have hcas := run_call_cas_hit (P := Tryz.prog) Tryz.func224 (by kernel_rfl) (by kernel_rfl) (by kernel_rfl) .u64 (by kernel_rfl) (y := v) hc hf
  go_enter Tryz.func214, Tryz.ntmps214
  go_wp2
  go_ret
  exact ⟨rfl, rfl⟩
set_option maxHeartbeats 400000 in
theorem atomic_Cas_miss (b : Nat) (u o v : Int) (w : World) (hc : w.cell? ⟨b, 0, none⟩ = some (.int .u64 u)) (hf : w.frozen? ⟨b, 0, none⟩ = false) (hne : ¬ u = o) :
    Calls Tryz.prog 214 #[.pointer (some ⟨b, 0, none⟩), .int .u64 o, .int .u64 v] w fun e w' => e = .returned (.bool false) ∧ w = w' := by
  have hcas := run_call_cas_miss (P := Tryz.prog) Tryz.func224 (by kernel_rfl) (by kernel_rfl) (by kernel_rfl) .u64 (by kernel_rfl) (o := o) (y := v) hc hf hne
  go_enter Tryz.func214, Tryz.ntmps214
  go_wp2
  go_ret
  exact ⟨rfl, rfl⟩

/-- Block b is a cell that holds v. -/
def IsCell (w : World) (b : Nat) (v : Int) : Prop := w.cell? ⟨b, 0, none⟩ = some (.int .u64 v) ∧ w.frozen? ⟨b, 0, none⟩ = false

set_option maxHeartbeats 400000 in
theorem cell_New (v : Int) (w : World) :
    Calls Tryz.prog 204 #[.int .u64 v] w fun e w' => e = .returned (.pointer (some ⟨w.heap.size, 0, none⟩)) ∧ w.alloc (.cells #[.int .u64 v] 274) = w' := by
  go_enter Tryz.func204, Tryz.ntmps204
  go_wp2_with (first | (go_at_call 212; refine (atomic_Store _ 0 _ _ (by simp) (by simp)).mono ?_; rintro e w' ⟨rfl, rfl⟩))
  go_ret
  exact ⟨rfl, rfl⟩
set_option maxHeartbeats 400000 in
theorem cell_Load (b : Nat) (v : Int) (w : World) (hc : IsCell w b v) :
    Calls Tryz.prog 215 #[.pointer (some ⟨b, 0, none⟩)] w fun e w' => e = .returned (.int .u64 v) ∧ w = w' := by
  go_enter Tryz.func215, Tryz.ntmps215
  go_wp2_with (first | (go_at_call 225; refine (atomic_Load _ _ _ hc.1).mono ?_; rintro e w' ⟨rfl, rfl⟩))
  go_ret
  exact ⟨rfl, rfl⟩
set_option maxHeartbeats 400000 in
theorem cell_Load_nil (w : World) :
    Calls Tryz.prog 215 #[.pointer none] w fun e w' => e = .returned (.int .u64 0) ∧ w = w' := by
  go_enter Tryz.func215, Tryz.ntmps215
  go_wp2
  go_ret
  exact ⟨rfl, rfl⟩
set_option maxHeartbeats 400000 in
theorem cell_Swap_nil (o s : Int) (w : World) (h0 : 0 ≤ o) (h1 : o < 18446744073709551616) :
    Calls Tryz.prog 205 #[.pointer none, .int .u64 o, .int .i64 s] w fun e w' => e = .returned (.tuple #[.int .u64 0, .bool false]) ∧ w = w' := by
  go_enter Tryz.func205, Tryz.ntmps205
  go_wp2_with (first | (go_at_call 213; refine (word_To _ _ _ h0 h1).mono ?_; rintro e w' ⟨rfl, rfl⟩) | (go_at_call 215; refine (cell_Load_nil _).mono ?_; rintro e w' ⟨rfl, rfl⟩))
  go_ret2
  exact ⟨rfl, rfl⟩
set_option maxHeartbeats 400000 in
theorem cell_Swap_hit (b : Nat) (o s : Int) (w : World) (hc : IsCell w b o) (h0 : 0 ≤ o) (h1 : o < 18446744073709551616) (hm : wMay (o % 4) s = true) :
    Calls Tryz.prog 205 #[.pointer (some ⟨b, 0, none⟩), .int .u64 o, .int .i64 s] w fun e w' => e = .returned (.tuple #[.int .u64 (wTo o s), .bool true]) ∧ w.setCell ⟨b, 0, none⟩ (.int .u64 (wTo o s)) = w' := by
  go_enter Tryz.func205, Tryz.ntmps205
  go_wp2_with (first | (go_at_call 213; refine (word_To _ _ _ h0 h1).mono ?_; rintro e w' ⟨rfl, rfl⟩) | (go_at_call 214; refine (atomic_Cas_hit _ _ _ _ hc.1 hc.2).mono ?_; rintro e w' ⟨rfl, rfl⟩))
  go_ret2
  exact ⟨rfl, rfl⟩
set_option maxHeartbeats 400000 in
theorem cell_Swap_miss (b : Nat) (v o s : Int) (w : World) (hc : IsCell w b v) (h0 : 0 ≤ o) (h1 : o < 18446744073709551616) (hne : ¬ (v = o ∧ wMay (o % 4) s = true)) :
    Calls Tryz.prog 205 #[.pointer (some ⟨b, 0, none⟩), .int .u64 o, .int .i64 s] w fun e w' => e = .returned (.tuple #[.int .u64 v, .bool false]) ∧ w = w' := by
  by_cases hm : wMay (o % 4) s = true
  · have hv : ¬ v = o := fun h => hne ⟨h, hm⟩
    clear hne
    go_enter Tryz.func205, Tryz.ntmps205
    go_wp2_with (first | (go_at_call 213; refine (word_To _ _ _ h0 h1).mono ?_; rintro e w' ⟨rfl, rfl⟩) | (go_at_call 214; refine (atomic_Cas_miss _ _ _ _ _ hc.1 hc.2 hv).mono ?_; rintro e w' ⟨rfl, rfl⟩) | (go_at_call 215; refine (cell_Load _ _ _ hc).mono ?_; rintro e w' ⟨rfl, rfl⟩))
    go_ret2
    exact ⟨rfl, rfl⟩
  · have hm : wMay (o % 4) s = false := by simpa using hm
    clear hne
    go_enter Tryz.func205, Tryz.ntmps205
    go_wp2_with (first | (go_at_call 213; refine (word_To _ _ _ h0 h1).mono ?_; rintro e w' ⟨rfl, rfl⟩) | (go_at_call 215; refine (cell_Load _ _ _ hc).mono ?_; rintro e w' ⟨rfl, rfl⟩))
    go_ret2
    exact ⟨rfl, rfl⟩

def cOk (d o s : Int) : Bool := d == o && wMay (o % 4) s
def cSwap (d o s : Int) : Int := if cOk d o s then wTo o s else d
theorem cSwap_range {d o s : Int} (h0 : 0 ≤ o) (h1 : o < 18446744073709551616) (h2 : 0 ≤ d) (h3 : d < 18446744073709551616) : 0 ≤ cSwap d o s ∧ cSwap d o s < 18446744073709551616 := by
  unfold cSwap; split
  · exact wTo_range _ _ h0 h1
  · exact ⟨h2, h3⟩
theorem modify_id {α : Type} (a : Array α) (i : Nat) (f : α → α) (h : ∀ x, a[i]? = some x → f x = x) : a.modify i f = a := by
  apply Array.ext_getElem?
  intro j
  rw [Array.getElem?_modify]
  split
  · rename_i e; subst e
    cases hx : a[i]? with
    | none => rfl
    | some x => simp [h x hx]
  · rfl
theorem setCell_id {w : World} {a : Addr} {v : Value} (h : w.cell? a = some v) : w.setCell a v = w := by
  have : (w.setCell a v).heap = w.heap := by
    simp only [World.setCell]
    apply modify_id
    intro x hx
    unfold World.cell? at h
    rw [hx] at h
    cases x with
    | cells c e f =>
      simp only at h ⊢
      by_cases hs : a.spot.isSome = true
      · simp [hs] at h
      · simp only [hs, Bool.false_eq_true, if_false] at h ⊢
        congr 1
        apply Array.ext_getElem?
        intro j
        rw [Array.getElem?_setIfInBounds]
        split
        · rename_i e; subst e
          split
          · simpa using h.symm
          · rename_i hn; simp [Array.getElem?_eq_none (Nat.le_of_not_lt hn)]
        · rfl
    | _ => rfl
  unfold World.setCell at this ⊢
  cases w; simp_all
theorem Blk.isCell {w : World} {b : Nat} {v : Int} (h : Blk w b 274 #[.int .u64 v]) : IsCell w b v := ⟨by rw [h.cell]; rfl, h.frozen 0⟩
theorem IsCell.set {w : World} {b : Nat} {v : Int} (h : IsCell w b v) (u : Int) : IsCell (w.setCell ⟨b, 0, none⟩ (.int .u64 u)) b u := by
  refine ⟨?_, ?_⟩
  · exact World.cell?_setCell_same' _ _ _ (by rw [h.1]; rfl)
  · rw [World.frozen?_setCell]; exact h.2
theorem cell_Swap (b : Nat) (v o s : Int) (w : World) (hc : IsCell w b v) (h0 : 0 ≤ o) (h1 : o < 18446744073709551616) :
    Calls Tryz.prog 205 #[.pointer (some ⟨b, 0, none⟩), .int .u64 o, .int .i64 s] w fun e w' => e = .returned (.tuple #[.int .u64 (cSwap v o s), .bool (cOk v o s)]) ∧ w.setCell ⟨b, 0, none⟩ (.int .u64 (cSwap v o s)) = w' := by
  by_cases h : cOk v o s = true
  · have h' := h
    simp only [cOk, Bool.and_eq_true, beq_iff_eq] at h'
    obtain ⟨e0, hm⟩ := h'
    subst e0
    refine (cell_Swap_hit b v s w hc h0 h1 hm).mono fun e w' ⟨he, hw⟩ => ?_
    have e1 : cSwap v v s = wTo v s := by simp [cSwap, h]
    rw [e1, h]
    exact ⟨he, hw⟩
  · have h' : ¬ (v = o ∧ wMay (o % 4) s = true) := by simpa [cOk] using h
    refine (cell_Swap_miss b v o s w hc h0 h1 h').mono fun e w' ⟨he, hw⟩ => ?_
    have e1 : cSwap v o s = v := by simp [cSwap, h]
    simp only [Bool.not_eq_true] at h
    rw [e1, h, setCell_id hc.1]
    exact ⟨he, hw⟩

set_option maxHeartbeats 400000 in
theorem law02_awake (w : World) :
    Calls Tryz.prog 194 #[] w fun e w' => e = .returned (.bool true) ∧ Below w.heap.size w w' := by
  have e1 : cSwap 20 20 1 = 25 := by decide
  have e2 : cOk 20 20 1 = true := by decide
  have e3 : cSwap 25 20 1 = 25 := by decide
  have e4 : cOk 25 20 1 = false := by decide
  have hcell : ∀ (W : World) (v : Int), IsCell (W.alloc (.cells #[.int .u64 v] 274)) W.heap.size v := fun W v => ⟨by simp, by simp⟩
  go_enter Tryz.func194, Tryz.ntmps194
  go_wp2_with (first | (go_at_call 204; refine (cell_New _ _).mono ?_; rintro e w' ⟨rfl, rfl⟩) | (go_at_call 205; refine (cell_Swap _ _ _ _ _ (hcell _ _) (by omega) (by omega)).mono ?_; rintro e w' ⟨rfl, rfl⟩) | (go_at_call 206; go_in) | (go_at_call 216; refine (law01_awake _).mono ?_; rintro e w' ⟨rfl, rfl⟩))
  go_ret
  exact ⟨rfl, (Below.refl _ _).alloc (Nat.le_refl _) _⟩
set_option maxHeartbeats 400000 in
theorem law02_Awake (w : World) :
    Calls Tryz.prog 189 #[] w fun e w' => e = .returned (.bool true) ∧ Below w.heap.size w w' := by
  go_enter Tryz.func189, Tryz.ntmps189
  go_wp2_with (first | (go_at_call 194; refine (law02_awake _).mono ?_; rintro e w' ⟨rfl, hb⟩))
  go_ret
  exact ⟨rfl, hb⟩
end Go.Proofs.YtonfaojmphidpaaGreatDoor

/- Package snap, and the document's lists. -/
namespace Go.Proofs.YtonfaojmphidpaaGreatDoor
open Go.RowKit
set_option linter.unusedVariables false
set_option linter.unusedSimpArgs false

theorem erase_idx {xs : List Int} {n : Int} (h : n ∈ xs) : ∃ i : Nat, i < xs.length ∧ idxI xs n = i ∧ xs.eraseIdx i = xs.erase n := by
  have hx := List.erase_eq_eraseIdx xs n
  unfold idxI
  have e : List.idxOf? n xs = xs.findIdx? (· == n) := rfl
  rw [e] at hx
  cases hf : xs.findIdx? (· == n) with
  | none =>
    rw [List.findIdx?_eq_none_iff] at hf
    have := hf n h
    simp at this
  | some i =>
    rw [hf] at hx
    have := (List.findIdx?_eq_some_iff_getElem.1 hf).1
    exact ⟨i, this, rfl, hx.symm⟩

theorem own_blk {w : World} {B n c : Nat} {e : TypeId} {k : IntKind} {A : Option Addr} {xs : List Int} (h : w.ownsRow B e 1 (.slice A n c) n (nums k xs)) (h0 : 0 < n) :
    ∃ g cur, A = some ⟨g, 0, none⟩ ∧ B ≤ g ∧ Blk w g e cur ∧ cur.size = c ∧ n ≤ c ∧ c ≤ 9223372036854775807 ∧ xs.length = n ∧ ∀ j, j < n → cur[j]? = some (.int k (xs.getD j 0)) := by
  obtain ⟨hl, hv⟩ := h
  rcases hv with ⟨hv, _⟩ | ⟨g, cap, cur, hv, hb, hg, hn, hm, hs, ht⟩
  · simp only [Value.slice.injEq] at hv; omega
  · simp only [Value.slice.injEq] at hv
    obtain ⟨rfl, _, rfl⟩ := hv
    have hxl : xs.length = n := by rw [nums_length] at hl; omega
    refine ⟨g, cur, rfl, hb, hg, by omega, hn, by unfold maxLen at hm; omega, hxl, fun j hj => ?_⟩
    have : (nums k xs)[j]? = some (.int k (xs.getD j 0)) := nums_get (by omega)
    rw [← ht, List.getElem?_take] at this
    split at this
    · simpa using this
    · cases this

theorem blk_sl {w : World} {g cap : Nat} {e : TypeId} {k : IntKind} {cur : Array Value} {ys : List Int} (hk : Blk w g e cur) (hs : cur.size = cap) (hl : ys.length ≤ cap) (hc : ∀ j, j < ys.length → cur[j]? = some (.int k (ys.getD j 0))) :
    Sl k w (some ⟨g, 0, none⟩) cap ys :=
  ⟨by simp [nums], hl, (fun h => by cases h), fun _ => ⟨g, 0, rfl, hk.lt, fun i v hi => by
    have hil : i < ys.length := by have := (List.getElem?_eq_some_iff.1 hi).1; rwa [nums_length] at this
    rw [nums_get hil] at hi
    rw [hk.cell, Nat.zero_add, hc i hil, ← hi]⟩⟩

def ofL (xs : List Int) : List Int := xs.foldl withL []
theorem ofL_snoc (xs : List Int) (x : Int) : ofL (xs ++ [x]) = withL (ofL xs) x := by simp [ofL]
theorem withL_length (xs : List Int) (n : Int) : (withL xs n).length ≤ xs.length + 1 := by unfold withL; split <;> simp
theorem take_snoc {α : Type} [Inhabited α] (xs : List α) (k : Nat) (h : k < xs.length) : xs.take (k + 1) = xs.take k ++ [xs.getD k default] := by
  rw [List.take_succ_eq_append_getElem h]; simp [List.getD_eq_getElem?_getD, h]
theorem ofL_length (xs : List Int) (k : Nat) : (ofL (xs.take k)).length ≤ k := by
  induction k with
  | zero => simp [ofL]
  | succ k ih =>
    by_cases h : k < xs.length
    · rw [take_snoc xs k h, ofL_snoc]
      have := withL_length (ofL (xs.take k)) (xs.getD k default)
      omega
    · rw [List.take_of_length_le (by omega)] at ih ⊢
      omega

set_option maxHeartbeats 1000000 in
theorem snap_Of (a : Option Addr) (cap : Nat) (xs : List Int) (w : World) (h : Sl .u64 w a cap xs) (hl : xs.length ≤ 10000) :
    Calls Tryz.prog 190 #[.slice a xs.length cap] w fun e w' => ∃ a' cap', e = .returned (.agg #[.slice a' (ofL xs).length cap']) ∧ Sl .u64 w' a' cap' (ofL xs) ∧ (∀ q, a' = some q → w.heap.size ≤ q.block) ∧ Below w.heap.size w w' := by
  go_enter Tryz.func190, Tryz.ntmps190
  go_wp2
  go_loopw [8] (fun i wr => ∃ (k : Nat) (ys : List Int) (ay : Option Addr) (cy : Nat), k ≤ xs.length ∧ i = .int .i64 k ∧ ys = ofL (xs.take k) ∧ Blk wr (w.heap.size + 1) 251 #[.slice ay ys.length cy] ∧ Blk wr w.heap.size 251 #[.slice none 0 0] ∧
    Sl .u64 wr ay cy ys ∧ (∀ q, ay = some q → w.heap.size + 2 ≤ q.block) ∧ Below w.heap.size w wr) (fun i _ => xs.length - (intOf i).toNat)
  case atStart =>
    have b2 := Blk.new (w.alloc (.cells #[.slice none 0 0] 251)) 251 #[.slice none 0 0]
    rw [World.size_alloc] at b2
    exact ⟨0, [], none, 0, by omega, rfl, by simp [ofL], b2, (Blk.new _ _ _).alloc _, Rd.nil_ 1 _, (fun q hq => by cases hq), ((Below.refl w.heap.size w).alloc (Nat.le_refl _) _).alloc (by simp) _⟩
  case round =>
    obtain ⟨k, ys, ay, cy, hk, rfl, hys, hb1, hb0, hsl, hloc, hB⟩ := hrel
    have hyl : ys.length ≤ k := by rw [hys]; exact ofL_length xs k
    have HYS := Lib.hid hys; clear hys
    have p0 := hb1.cell 0
    have p1 := hb1.frozen 0
    have p2 := hb0.cell 0
    have p3 := hb0.frozen 0
    simp only [List.getElem?_toArray, List.getElem?_cons_zero] at p0 p2
    have hz1 := hb1.lt
    by_cases hlt : k < xs.length
    · obtain ⟨b, off, rfl, hbs, hc⟩ := h.at_ (by omega)
      have c0 := (hB.cell (p := ⟨b, off + k, none⟩) hbs).trans (hc k hlt)
      clear hc
      generalize hx : xs.getD k 0 = x at c0
      have HX := Lib.hid hx; clear hx
      go_wp2_with (go_at_call 195; refine (snap_With _ _ _ _ _ hsl (by omega)).mono ?_; rintro e w1 ⟨a1, cap1, rfl, hs1, hl1, hb⟩; obtain ⟨bc, bf⟩ := bcell hb)
      go_roundw
      case rel =>
        refine ⟨k + 1, withL ys x, a1, cap1, by omega, by go_num, ?_, (hb1.of_below hb).put 0 _, (hb0.of_below hb).far (by simp) _, ?_, ?_, ?_⟩
        · rw [take_snoc xs k hlt, ofL_snoc, ← HYS.out, ← HX.out]; rfl
        · refine Rd.far hs1 (fun q hq => ?_) _
          rcases hl1 with e | e
          · rw [e] at hq; have := hloc q hq; simp; omega
          · have := e q hq; simp; omega
        · intro q hq
          rcases hl1 with e | e
          · rw [e] at hq; exact hloc q hq
          · have := e q hq; omega
        · exact (below_step hB hB.size hb).setCell (by simp) _
      case measure => simp [intOf]; omega
    · go_wp2
      have e : ys = ofL xs := by rw [HYS.out, List.take_of_length_le (by omega)]
      refine bodyPost_ret (v := .agg #[.slice ay ys.length cy]) (by simp [results, Tryz.results190, go_sem, p2]) rfl ?_
      rw [← e]
      refine ⟨ay, cy, rfl, Rd.far hsl (fun q hq => by have := hloc q hq; simp; omega) _, fun q hq => by have := hloc q hq; omega, hB.setCell (by simp) _⟩
end Go.Proofs.YtonfaojmphidpaaGreatDoor

/- The document's lists of layer 3. -/
namespace Go.Proofs.YtonfaojmphidpaaGreatDoor
open Go.RowKit
set_option linter.unusedVariables false
set_option linter.unusedSimpArgs false

theorem withoutL_snoc (xs : List Int) (k : Nat) (n : Int) (h : k < xs.length) : withoutL (xs.take (k + 1)) n = withoutL (xs.take k) n ++ (if xs.getD k 0 = n then [] else [xs.getD k 0]) := by
  rw [take_snoc xs k h]
  simp only [withoutL, List.filter_append]
  congr 1
  show List.filter _ [xs.getD k 0] = _
  generalize xs.getD k 0 = y
  by_cases e : y = n <;> simp [e]
theorem withoutL_length (xs : List Int) (n : Int) : (withoutL xs n).length ≤ xs.length := List.length_filter_le _ _

end Go.Proofs.YtonfaojmphidpaaGreatDoor
