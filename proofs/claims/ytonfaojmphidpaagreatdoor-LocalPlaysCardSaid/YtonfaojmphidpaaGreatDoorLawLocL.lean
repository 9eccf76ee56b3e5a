/- The walk of layer 12's law LocalLast. -/
import Derived.Test.YtonfaojmphidpaaGreatDoorLocC
import Derived.Test.YtonfaojmphidpaaGreatDoorZA4
namespace Go.Proofs.YtonfaojmphidpaaGreatDoor
open Go.RowKit
set_option linter.unusedVariables false
set_option linter.unusedSimpArgs false

/-! nil lists -/
set_option maxHeartbeats 400000 in
theorem local_has_nil (t : Int) (w : World) : Calls Tryz.prog 90 #[.pointer none, .int .i64 t] w fun e w' => e = .returned (.bool false) ∧ w = w' := by
  go_enter Tryz.func90, Tryz.ntmps90
  go_wp2
  go_ret
  exact ⟨rfl, rfl⟩
set_option maxHeartbeats 400000 in
theorem local_Take_nil (t : Int) (w : World) : Calls Tryz.prog 49 #[.pointer none, .int .i64 t] w fun e w' => e = .returned (.tuple #[.int .u64 0, .bool false]) ∧ w = w' := by
  go_enter Tryz.func49, Tryz.ntmps49
  go_wp2_with (go_at_call 90; refine (local_has_nil _ _).mono ?_; rintro e w' ⟨rfl, rfl⟩)
  go_ret2
  exact ⟨rfl, rfl⟩
set_option maxHeartbeats 400000 in
theorem local_All_nil (t : Int) (w : World) : Calls Tryz.prog 53 #[.pointer none, .int .i64 t] w fun e w' => e = .returned (.slice none 0 0) ∧ w = w' := by
  go_enter Tryz.func53, Tryz.ntmps53
  go_wp2_with (go_at_call 90; refine (local_has_nil _ _).mono ?_; rintro e w' ⟨rfl, rfl⟩)
  go_ret
  exact ⟨rfl, rfl⟩
set_option maxHeartbeats 400000 in
theorem local_Put_nil (t : Int) (v : Value) (w : World) : Calls Tryz.prog 48 #[.pointer none, .int .i64 t, v] w fun e w' => e = .returned (.int .i64 1) ∧ w = w' := by
  go_enter Tryz.func48, Tryz.ntmps48
  go_wp2
  go_ret
  exact ⟨rfl, rfl⟩
set_option maxHeartbeats 400000 in
theorem local_Clone_nil (w : World) : Calls Tryz.prog 47 #[.pointer none] w fun e w' => e = .returned (.pointer none) ∧ w = w' := by
  go_enter Tryz.func47, Tryz.ntmps47
  go_wp2
  go_ret
  exact ⟨rfl, rfl⟩
set_option maxHeartbeats 400000 in
theorem local_Len_nil (w : World) : Calls Tryz.prog 54 #[.pointer none] w fun e w' => e = .returned (.int .i64 0) ∧ w = w' := by
  go_enter Tryz.func54, Tryz.ntmps54
  go_wp2_with fail
  go_loopw [3, 5] (fun n i wr => ∃ k : Nat, k ≤ 8 ∧ i = .int .i64 k ∧ n = .int .i64 0 ∧ wr = w) (fun _ i _ => 8 - (intOf i).toNat)
  case atStart => exact ⟨0, by omega, rfl, rfl, rfl⟩
  case round =>
    obtain ⟨k, hk, rfl, rfl, rfl⟩ := hrel
    by_cases hlt : k < 8
    · go_wp2_with (go_at_call 53; refine (local_All_nil _ _).mono ?_; rintro e w' ⟨rfl, rfl⟩)
      go_roundw
      case rel => exact ⟨k + 1, by omega, by go_num, by first | rfl | trivial⟩
      case measure => simp [intOf]; omega
    · go_wp2
      go_ret
      exact ⟨rfl, rfl⟩

/-! The law's own table. -/
/-- Block W is eight rows of the call's own, all in blocks of their own. -/
structure Wn (w : World) (B W : Nat) (G : List Ln) : Prop where
  blk : Blk w W 99 (G.map Ln.val).toArray
  n8 : G.length = 8
  own : ∀ l ∈ G, w.ownsRow B 28 1 l.val l.xs.length (nums .u64 l.xs)
  dis : ∀ (i j : Nat) (li lj : Ln), G[i]? = some li → G[j]? = some lj → i ≠ j → ∀ b, li.val.ownBlock = some b → lj.val.ownBlock ≠ some b
theorem Wn.keep {w w' : World} {B W : Nat} {G : List Ln} {S : Nat → Prop} (h : Wn w B W G) (hg : Grew w w' S) (hW : ¬ S W) (hr : ∀ l ∈ G, ∀ b, l.val.ownBlock = some b → ¬ S b) : Wn w' B W G :=
  ⟨h.blk.grew hg hW, h.n8, fun l hl => own_grew (h.own l hl) hg (hr l hl), h.dis⟩
theorem Wn.of_below {w w' : World} {B W : Nat} {G : List Ln} (h : Wn w B W G) (hb : RowKit.Below w.heap.size w w') : Wn w' B W G :=
  ⟨h.blk.of_below hb, h.n8, fun l hl => own_below (h.own l hl) hb, h.dis⟩
theorem Wn.row_lt {w : World} {B W : Nat} {G : List Ln} (h : Wn w B W G) {l : Ln} (hl : l ∈ G) {b : Nat} (hb : l.val.ownBlock = some b) : b < w.heap.size := ((h.own l hl).lt b hb).2
/-- The row k has grown by one: w has become w1 behind the append, and the cell is set. -/
theorem Wn.app {w w1 : World} {B W : Nat} {G : List Ln} (h : Wn w B W G) {k : Nat} {l m : Ln} (hk : G[k]? = some l) (hg : w.grownBy w1 l.val.ownBlock) (hm : w1.ownsRow B 28 1 m.val m.xs.length (nums .u64 m.xs))
    (hb : m.val.ownBlock = l.val.ownBlock ∨ ∃ b, m.val.ownBlock = some b ∧ w.heap.size ≤ b) : Wn (w1.setCell ⟨W, k, none⟩ m.val) B W (G.set k m) := by
  have hl : l ∈ G := List.mem_of_getElem? hk
  have hk8 : k < G.length := (List.getElem?_eq_some_iff.1 hk).1
  have hgw := Grew.of_grown (S := fun z => l.val.ownBlock = some z) hg (fun z hz => hz)
  have hW : l.val.ownBlock ≠ some W := own_apart (h.own l hl) h.blk (by decide)
  have hb1 := h.blk.grew hgw hW
  have hs := Grew.set w1 ⟨W, k, none⟩ m.val
  refine ⟨?_, by rw [List.length_set]; exact h.n8, fun p hp => ?_, fun i j li lj hi hj hij b hib hjb => ?_⟩
  · have := hb1.put k m.val
    rw [List.map_set]
    simpa using this
  · obtain ⟨i, hi⟩ := List.mem_iff_getElem?.1 hp
    by_cases e : i = k
    · subst e
      rw [List.getElem?_set_self hk8] at hi
      obtain rfl := Option.some.inj hi
      exact own_grew hm hs (fun z hz e => own_apart hm hb1 (by decide) (by rw [hz, e]))
    · rw [List.getElem?_set_ne (fun e' => e e'.symm)] at hi
      have hpG : p ∈ G := List.mem_of_getElem? hi
      have h1 : w1.ownsRow B 28 1 p.val p.xs.length (nums .u64 p.xs) := own_grew (h.own p hpG) hgw (fun z hz hz' => h.dis i k p l hi hk e z hz hz')
      exact own_grew h1 hs (fun z hz e => own_apart h1 hb1 (by decide) (by rw [hz, e]))
  · have key : ∀ (j : Nat) (lj : Ln), G[j]? = some lj → j ≠ k → ∀ b, m.val.ownBlock = some b → lj.val.ownBlock ≠ some b := by
      intro j lj hj hjk b hmb hjb
      rcases hb with hb | ⟨b', hb, hb'⟩
      · exact h.dis j k lj l hj hk hjk b hjb (by rw [← hb, hmb])
      · rw [hmb] at hb
        obtain rfl := Option.some.inj hb
        have := h.row_lt (List.mem_of_getElem? hj) hjb
        omega
    by_cases ei : i = k
    · subst ei
      rw [List.getElem?_set_self hk8] at hi
      rw [List.getElem?_set_ne hij] at hj
      obtain rfl := Option.some.inj hi
      exact key j lj hj (fun e => hij e.symm) b hib hjb
    · rw [List.getElem?_set_ne (fun e' => ei e'.symm)] at hi
      by_cases ej : j = k
      · subst ej
        rw [List.getElem?_set_self hk8] at hj
        obtain rfl := Option.some.inj hj
        exact key i li hi ei b hjb hib
      · rw [List.getElem?_set_ne (fun e' => ej e'.symm)] at hj
        exact h.dis i j li lj hi hj hij b hib hjb
/-- The program's lists lie in none of the table's rows. -/
def Sep (F G : List Ln) : Prop := ∀ l ∈ F, ∀ m ∈ G, 0 < l.xs.length → ∀ q, l.a = some q → m.val.ownBlock ≠ some q.block
theorem Ls.grewS {w w' : World} {g : Nat} {F : List Ln} {S : Nat → Prop} (h : Ls w g F) (hg : Grew w w' S) (hn : ¬ S g) (hr : ∀ l ∈ F, ∀ q, l.a = some q → 0 < l.xs.length → ¬ S q.block) : Ls w' g F :=
  ⟨h.blk.grew hg hn, h.n8, fun l hl => (h.sl l hl).grew hg (hr l hl), h.len⟩

/-- The ids of a thread. -/
def idsOf (xs : List Int) (j : Nat) : List Int := xs.filter fun x => x % 8 == (j : Int)
theorem idsOf_snoc {xs : List Int} {k : Nat} {x : Int} (h : xs[k]? = some x) (j : Nat) : idsOf (xs.take (k + 1)) j = idsOf (xs.take k) j ++ if x % 8 = (j : Int) then [x] else [] := by
  rw [take_snoc2 h]; unfold idsOf; rw [List.filter_append]
  by_cases e : x % 8 = (j : Int) <;> simp [e]
theorem idsOf_le (xs : List Int) (j : Nat) : (idsOf xs j).length ≤ xs.length := List.length_filter_le _ _
theorem last4_step (xs : List Int) (x : Int) : last4 (last4 xs ++ [x]) = last4 (xs ++ [x]) := by
  by_cases h : xs.length ≤ 3
  · have e : last4 xs = xs := by unfold last4; rw [show xs.length - 4 = 0 by omega]; rfl
    rw [e]
  · have e : last4 xs ++ [x] = (xs ++ [x]).drop (xs.length - 4) := by unfold last4; rw [List.drop_append_of_le_length (by omega)]
    rw [e]
    unfold last4
    rw [List.drop_drop]
    congr 1
    simp only [List.length_drop, List.length_append, List.length_cons, List.length_nil]
    omega
theorem Sl.one {w : World} {b : Nat} {t : TypeId} {k : IntKind} {x : Int} (h : Blk w b t #[.int k x]) : Sl k w (some ⟨b, 0, none⟩) 1 [x] :=
  ⟨rfl, Nat.le_refl _, (fun e => by cases e), fun _ => ⟨b, 0, rfl, h.lt, fun i v hi => by
    rw [Nat.zero_add, h.cell]; simpa [nums] using hi⟩⟩
theorem Sep.step {wr w5 : World} {g B W : Nat} {F G : List Ln} {j : Nat} {l' m m' : Ln} (hF : Ls wr g F) (hF5 : Ls w5 g (F.set j l')) (hG : Wn wr B W G) (hsz : wr.heap.size ≤ w5.heap.size) (hs : Sep F G) (hm : G[j]? = some m) (hj : j < 8)
    (hl' : ∀ q, l'.a = some q → wr.heap.size ≤ q.block) (hnew : m'.val.ownBlock = m.val.ownBlock ∨ ∃ b, m'.val.ownBlock = some b ∧ w5.heap.size ≤ b) : Sep (F.set j l') (G.set j m') := by
  have hlt : ∀ l ∈ F, 0 < l.xs.length → ∀ q, l.a = some q → q.block < wr.heap.size := fun l hl h0 q hq => by
    obtain ⟨b, off, ha, hb, _⟩ := (hF.sl l hl).at_ h0
    rw [ha] at hq; cases hq; exact hb
  have hlt5 : ∀ l ∈ F.set j l', 0 < l.xs.length → ∀ q, l.a = some q → q.block < w5.heap.size := fun l hl h0 q hq => by
    obtain ⟨b, off, ha, hb, _⟩ := (hF5.sl l hl).at_ h0
    rw [ha] at hq; cases hq; exact hb
  have old : ∀ l ∈ F.set j l', ∀ m ∈ G, 0 < l.xs.length → ∀ q, l.a = some q → m.val.ownBlock ≠ some q.block := fun l hl m hm h0 q hq e => by
    rcases List.mem_or_eq_of_mem_set hl with hl | rfl
    · exact hs l hl m hm h0 q hq e
    · have := hG.row_lt hm e
      have := hl' q hq
      omega
  intro l hl p hp h0 q hq e
  rcases List.mem_or_eq_of_mem_set hp with hp | rfl
  · exact old l hl p hp h0 q hq e
  · rcases hnew with hn | ⟨b, hn, hb⟩
    · rw [hn] at e; exact old l hl m (List.mem_of_getElem? hm) h0 q hq e
    · rw [hn] at e
      have := Option.some.inj e
      have := hlt5 l hl h0 q hq
      omega

theorem lensN_zero {F : List Ln} (h : ∀ l ∈ F, l.xs = []) : lensN F = 0 := by
  induction F with
  | nil => rfl
  | cons l F ih =>
    have h1 := h l List.mem_cons_self
    have h2 := ih fun m hm => h m (List.mem_cons_of_mem _ hm)
    unfold lensN at h2 ⊢
    simp [h1, h2]
theorem Sl.kept_g {w w' : World} {g : Nat} {F : List Ln} {a : Option Addr} {c : Nat} {xs : List Int} (h : Sl .u64 w a c xs) (hF : Ls w g F) (hg : Grew w w' (· = g)) : Sl .u64 w' a c xs :=
  h.grew hg (fun q hq h0 e => h.apart2 hF.blk Ls.noint h0 q hq e)
/-- What is left of a thread's last four behind i takes. -/
def tkL (xs : List Int) (i : Nat) : List Int := (last4 xs).take (min xs.length 4 - i)
theorem tkL_zero (xs : List Int) : tkL xs 0 = last4 xs := by unfold tkL; rw [List.take_of_length_le]; rw [last4_len]; omega
theorem tkL_end (xs : List Int) (i : Nat) (h : min xs.length 4 ≤ i) : tkL xs i = [] := by unfold tkL; rw [show min xs.length 4 - i = 0 by omega, List.take_zero]
theorem tkL_last (xs : List Int) (i : Nat) (h : i < min xs.length 4) : (tkL xs i).getLast? = some (xs.getD (xs.length - 1 - i) 0) := by
  unfold tkL
  have hl : ((last4 xs).take (min xs.length 4 - i)).length = min xs.length 4 - i := by rw [List.length_take, last4_len]; omega
  rw [List.getLast?_eq_getElem?, hl, List.getElem?_take, if_pos (by omega)]
  unfold last4
  rw [List.getElem?_drop, List.getD_eq_getElem?_getD, show xs.length - 4 + (min xs.length 4 - i - 1) = xs.length - 1 - i by omega, List.getElem?_eq_getElem (by omega)]
  rfl
theorem tkL_drop (xs : List Int) (i : Nat) (h : i < min xs.length 4) : (tkL xs i).dropLast = tkL xs (i + 1) := by
  unfold tkL
  have hl : ((last4 xs).take (min xs.length 4 - i)).length = min xs.length 4 - i := by rw [List.length_take, last4_len]; omega
  rw [List.dropLast_eq_take, hl, List.take_take]
  congr 1; omega

set_option maxRecDepth 100000 in
set_option maxHeartbeats 4000000 in
theorem law_LocalLast_of (haw : ∀ w : World, Calls Tryz.prog 44 #[] w fun e w' => e = .returned (.bool true) ∧ RowKit.Below w.heap.size w w')
    (a : Option Addr) (len cap : Nat) (zs : List Int) (w : World) (h1 : Nums .u64 w a len cap zs) :
    Calls Tryz.prog 10 #[.slice a len cap] w fun e w' => e = .returned (.bool true) ∧ RowKit.Below w.heap.size w w' := by
  obtain ⟨rfl, hn1, hwf1, hs1⟩ := h1
  have HAW := Lib.hid haw; clear haw
  by_cases hbig : 100 < zs.length
  · clear hwf1 hs1
    go_enter Tryz.func10, Tryz.ntmps10
    go_wp2_with (go_at_call 44; refine (HAW.out _).mono ?_; rintro e w' ⟨rfl, hb⟩)
    go_ret
    exact ⟨rfl, hb⟩
  have HWF := Lib.hid hwf1; clear hwf1
  have HS1 := Lib.hid hs1; clear hs1
  go_enter Tryz.func10, Tryz.ntmps10
  go_wp2_with fail
  refine (HAW.out _).mono ?_
  rintro e w1 ⟨rfl, hb1⟩
  have HB1 := Lib.hid hb1; clear hb1
  have hw1 := HB1.out.size
  go_wp2_with fail
  refine (local_New _).mono ?_
  rintro e w2 ⟨rfl, rfl⟩
  have hl1 := Ls.new w1
  have hB2 := HB1.out.alloc hw1 (.cells #[.slice none 0 0, .slice none 0 0, .slice none 0 0, .slice none 0 0, .slice none 0 0, .slice none 0 0, .slice none 0 0, .slice none 0 0] 146)
  have hsz2 := size_alloc w1 (.cells #[.slice none 0 0, .slice none 0 0, .slice none 0 0, .slice none 0 0, .slice none 0 0, .slice none 0 0, .slice none 0 0, .slice none 0 0] 146)
  generalize w1.alloc (.cells #[.slice none 0 0, .slice none 0 0, .slice none 0 0, .slice none 0 0, .slice none 0 0, .slice none 0 0, .slice none 0 0, .slice none 0 0] 146) = w2 at *
  have hal := (RowKit.Below.refl w2.heap.size w2).alloc (Nat.le_refl _) (.cells #[.slice none 0 0, .slice none 0 0, .slice none 0 0, .slice none 0 0, .slice none 0 0, .slice none 0 0, .slice none 0 0, .slice none 0 0] 99)
  have hl3 := hl1.of_below hal
  have hB3 := below_step hB2 hB2.size hal
  have hW3 : Wn (w2.alloc (.cells #[.slice none 0 0, .slice none 0 0, .slice none 0 0, .slice none 0 0, .slice none 0 0, .slice none 0 0, .slice none 0 0, .slice none 0 0] 99)) w1.heap.size (w1.heap.size + 1) (List.replicate 8 ⟨none, 0, []⟩) :=
    ⟨hsz2 ▸ Blk.new _ _ _, rfl, fun l hl => by rw [List.eq_of_mem_replicate hl]; exact World.ownsRow_nil _ _ _ _, fun i j li lj hi hj hij b hb => by
      rw [List.eq_of_mem_replicate (List.mem_of_getElem? hi)] at hb; cases hb⟩
  have hSep : Sep (List.replicate 8 ⟨none, 0, []⟩) (List.replicate 8 ⟨none, 0, []⟩) := fun l hl m hm h0 => by rw [List.eq_of_mem_replicate hl] at h0; exact absurd h0 (by simp)
  have HL3 := Lib.hid hl3; clear hl3 hl1 hal
  have HB3 := Lib.hid hB3; clear hB3 hB2
  have HW3 := Lib.hid hW3; clear hW3
  have HSEP := Lib.hid hSep; clear hSep
  go_wp2_with fail
  clear hsz2
  generalize hg : w1.heap.size = g at *
  have hgw : w.heap.size ≤ g := by omega
  go_loopg [25] zs.length (fun gh iv wr => ∃ (k : Nat) (F G : List Ln), gh = zs.length - k ∧ k ≤ zs.length ∧ iv = .int .i64 k ∧ Ls wr g F ∧ Wn wr g (g + 1) G ∧ Sep F G ∧ (∀ j, j < 8 → (F.getD j default).xs = last4 (idsOf (zs.take k) j)) ∧ (∀ j, j < 8 → (G.getD j default).xs = idsOf (zs.take k) j) ∧ RowKit.Below w.heap.size w wr)
  case atStart => exact ⟨0, _, _, rfl, by omega, rfl, HL3.out, HW3.out, HSEP.out, (fun j hj => by rw [List.getD_eq_getElem?_getD, List.getElem?_replicate, if_pos hj]; rfl), (fun j hj => by rw [List.getD_eq_getElem?_getD, List.getElem?_replicate, if_pos hj]; rfl), HB3.out⟩
  case round =>
    clear HL3 HW3 HSEP HB3
    obtain ⟨k, F, G, rfl, hk, rfl, hF, hG, hSp, hFx, hGx, hB⟩ := hrel
    have HF := Lib.hid hF; clear hF
    have HG := Lib.hid hG; clear hG
    have HSP := Lib.hid hSp; clear hSp
    have HFX := Lib.hid hFx; clear hFx
    have HGX := Lib.hid hGx; clear hGx
    have HB := Lib.hid hB; clear hB
    have hgl := HF.out.blk.lt
    have hWl := HG.out.blk.lt
    by_cases hlt : k < zs.length
    · obtain ⟨b, off, rfl, hbs, hc⟩ := HS1.out.at_ (by omega)
      have c0 := (HB.out.cell (p := ⟨b, off + k, none⟩) hbs).trans (hc k hlt)
      clear hc
      have hxx : zs[k]? = some (zs.getD k 0) := by rw [List.getD_eq_getElem?_getD, List.getElem?_eq_getElem hlt]; rfl
      have hxr := bounds_u64 (HWF.out (zs.getD k 0) (List.mem_of_getElem? hxx))
      generalize zs.getD k 0 = x at *
      obtain ⟨hx0, hx1⟩ := hxr
      obtain ⟨j, hj⟩ : ∃ j : Nat, x % 8 = (j : Int) := ⟨(x % 8).toNat, by omega⟩
      have hj8 : j < 8 := by omega
      obtain ⟨l, hl⟩ := HF.out.get hj8
      obtain ⟨m, hm⟩ : ∃ m, G[j]? = some m := ⟨_, List.getElem?_eq_getElem (by rw [HG.out.n8]; exact hj8)⟩
      have hmG : m ∈ G := List.mem_of_getElem? hm
      have hal := (RowKit.Below.refl wr.heap.size wr).alloc (Nat.le_refl _) (.cells #[.int .u64 x] 28)
      have hput : Calls Tryz.prog 48 #[.pointer (some ⟨g, 0, none⟩), .int .i64 j, .slice (some ⟨wr.heap.size, 0, none⟩) 1 1] (wr.alloc (.cells #[.int .u64 x] 28)) fun e w' => e = .returned (.int .i64 0) ∧ LsPut g F j (last4 (l.xs ++ [x])) (wr.alloc (.cells #[.int .u64 x] 28)) w' :=
        local_Put g F j l hl (some ⟨wr.heap.size, 0, none⟩) 1 [x] _ (HF.out.of_below hal) (Sl.one (Blk.new _ _ _)) (by simp)
      have hG1 := HG.out.of_below hal
      have HPUT := Lib.hid hput; clear hput
      have HG1 := Lib.hid hG1; clear hG1
      have HAL := Lib.hid hal; clear hal
      have hml : m.xs.length ≤ 100 := by
        have h1 := HGX.out j hj8
        rw [List.getD_eq_getElem?_getD, hm, Option.getD_some] at h1
        rw [h1]
        have := idsOf_le (zs.take k) j
        have := List.length_take_le k zs
        omega
      have HL := Lib.hid hl; clear hl
      have HM := Lib.hid hm; clear hm
      have HMG := Lib.hid hmG; clear hmG
      have HXX := Lib.hid hxx; clear hxx
      go_wp2_with fail
      refine HPUT.out.mono ?_
      rintro e w5 ⟨rfl, l', hl'x, hl'F, hl'g, hl'b⟩
      have hgl5 : wr.heap.size ≤ w5.heap.size := by have := hl'g.size; rw [size_alloc] at this; omega
      have hW5 : Wn w5 g (g + 1) G := HG1.out.keep hl'g (by simp) (fun p hp b hb e => own_apart (HG1.out.own p hp) (HF.out.of_below HAL.out).blk (by decide) (by rw [hb, e]))
      have p0 : w5.cell? ⟨g + 1, j, none⟩ = some (.slice m.a m.xs.length m.c) := by rw [hW5.blk.cell]; simp [HM.out, Ln.val]
      have p1 := hW5.blk.lt
      have p2 := hW5.blk.frozen j
      have hOm : w5.ownsRow g 28 1 (.slice m.a m.xs.length m.c) m.xs.length (nums .u64 m.xs) := hW5.own m HMG.out
      have HOM := Lib.hid hOm; clear hOm
      have HW5 := Lib.hid hW5; clear hW5
      have HLF := Lib.hid hl'F; clear hl'F
      have HLX := Lib.hid hl'x; clear hl'x
      have HLG := Lib.hid hl'g; clear hl'g
      have HLB := Lib.hid hl'b; clear hl'b
      have hgl6 : g ≤ w5.heap.size := by omega
      go_wp2_with (at_builtin; refine app_one w5 rfl (.tmp 41) (.tmp 43) 39 rfl g 28 (.int .u64 0) 1 8 Tryz.underlying39 Tryz.infoU rfl (by decide) (.slice m.a m.xs.length m.c) m.xs.length _ rfl HOM.out [.int .u64 x] rfl rfl (by simp [Value.oneCell']) (by omega) (by omega) hgl6 ?_; intro A2 c2 w6 h5 h6 h7; have k6 : Blk w6 (g + 1) 99 (G.map Ln.val).toArray := (h6.block (g + 1) p1 (fun e => own_apart HOM.out HW5.out.blk (by decide) e.symm)).trans HW5.out.blk; have q0 : w6.cell? ⟨g + 1, j, none⟩ = some (.slice m.a m.xs.length m.c) := (by rw [k6.cell]; simp [HM.out, Ln.val]); have q1 := k6.lt; have q2 := k6.frozen j; have H5 := Lib.hid h5; clear h5; have H7 := Lib.hid h7; clear h7; have H6 := Lib.hid h6; clear h6; clear k6)
      go_roundg (zs.length - (k + 1))
      case measure => omega
      case rel =>
        have e1 : (m.xs ++ [x]).length = m.xs.length + 1 := by simp
        have e2 : nums .u64 (m.xs ++ [x]) = nums .u64 m.xs ++ [.int .u64 x] := by simp [nums]
        have hm'v : (⟨A2, c2, m.xs ++ [x]⟩ : Ln).val = .slice A2 (m.xs.length + 1) c2 := by unfold Ln.val; rw [e1]
        have hW6 := HW5.out.app (m := ⟨A2, c2, m.xs ++ [x]⟩) HM.out H6.out (by rw [hm'v]; show w6.ownsRow g _ 1 _ (m.xs ++ [x]).length (nums .u64 (m.xs ++ [x])) ; rw [e1, e2]; exact H5.out) (by rw [hm'v]; exact H7.out)
        rw [hm'v] at hW6
        have hgw6 := Grew.of_grown (S := fun z => m.val.ownBlock = some z) H6.out (fun z hz => hz)
        have hset := Grew.set w6 ⟨g + 1, j, none⟩ (.slice A2 (m.xs.length + 1) c2)
        have hF6 : Ls w6 g (F.set j l') := HLF.out.grewS hgw6 (fun e => own_apart HOM.out HLF.out.blk (by decide) e) (fun p hp q hq h0 e => by
          rcases List.mem_or_eq_of_mem_set hp with hp | rfl
          · exact HSP.out p hp m HMG.out h0 q hq e
          · have h1 := HG.out.row_lt HMG.out e
            have h2 := HLB.out q hq
            rw [size_alloc] at h2
            omega)
        have hF7 := hF6.grewS hset (by simp) (fun p hp q hq h0 e => (hF6.sl p hp).apart2 (((HW5.out.blk).grew hgw6 (fun e => own_apart HOM.out HW5.out.blk (by decide) e))) Ls.noint h0 q hq e)
        have hSp' := Sep.step (j := j) (l' := l') (m' := ⟨A2, c2, m.xs ++ [x]⟩) HF.out HLF.out HG.out hgl5 HSP.out HM.out hj8 (fun q hq => by have := HLB.out q hq; rw [size_alloc] at this; omega) (by rw [hm'v]; exact H7.out)
        have hlx : l.xs = last4 (idsOf (zs.take k) j) := by have := HFX.out j hj8; rwa [List.getD_eq_getElem?_getD, HL.out, Option.getD_some] at this
        have hmx : m.xs = idsOf (zs.take k) j := by have := HGX.out j hj8; rwa [List.getD_eq_getElem?_getD, HM.out, Option.getD_some] at this
        refine ⟨k + 1, F.set j l', G.set j ⟨A2, c2, m.xs ++ [x]⟩, rfl, by omega, by go_num, hF7, hW6, hSp', fun i hi => ?_, fun i hi => ?_, ?_⟩
        · have hfl := HF.out.n8
          rw [idsOf_snoc HXX.out]
          by_cases e : i = j
          · subst e
            rw [List.getD_eq_getElem?_getD, List.getElem?_set_self (by omega), Option.getD_some, HLX.out, hlx, last4_step, if_pos hj]
          · rw [List.getD_eq_getElem?_getD, List.getElem?_set_ne (fun e' => e e'.symm), ← List.getD_eq_getElem?_getD, HFX.out i hi, if_neg (by omega), List.append_nil]
        · have hgl := HG.out.n8
          rw [idsOf_snoc HXX.out]
          by_cases e : i = j
          · subst e
            rw [List.getD_eq_getElem?_getD, List.getElem?_set_self (by omega), Option.getD_some, hmx, if_pos hj]
          · rw [List.getD_eq_getElem?_getD, List.getElem?_set_ne (fun e' => e e'.symm), ← List.getD_eq_getElem?_getD, HGX.out i hi, if_neg (by omega), List.append_nil]
        · have b1 := HB.out.alloc HB.out.size (.cells #[.int .u64 x] 28)
          have b2 := HLG.out.below b1 (fun z _ hz => by rw [hz]; exact hgw) (by have := HB.out.size; rw [size_alloc]; omega)
          have b3 := hgw6.below b2 (fun z _ hz => by have := own_base HOM.out z hz; omega) (by omega)
          exact b3.setCell (show w.heap.size ≤ g + 1 by omega) _
    · obtain rfl : k = zs.length := by omega
      have hFX2 := HFX.out
      have hGX2 := HGX.out
      rw [List.take_length] at hFX2 hGX2
      have hGe : ∃ m0 m1 m2 m3 m4 m5 m6 m7, G = [m0, m1, m2, m3, m4, m5, m6, m7] := by
        have h8 := HG.out.n8
        match G, h8 with
        | [m0, m1, m2, m3, m4, m5, m6, m7], _ => exact ⟨_, _, _, _, _, _, _, _, rfl⟩
      obtain ⟨m0, m1, m2, m3, m4, m5, m6, m7, hGe⟩ := hGe
      have gcell : ∀ (i : Nat) (m : Ln), G[i]? = some m → wr.cell? ⟨g + 1, i, none⟩ = some (.slice m.a m.xs.length m.c) := fun i m hm => by rw [HG.out.blk.cell]; simp [hm, Ln.val]
      have c0 := gcell 0 m0 (by rw [hGe]; rfl)
      have c1 := gcell 1 m1 (by rw [hGe]; rfl)
      have c2 := gcell 2 m2 (by rw [hGe]; rfl)
      have c3 := gcell 3 m3 (by rw [hGe]; rfl)
      have c4 := gcell 4 m4 (by rw [hGe]; rfl)
      have c5 := gcell 5 m5 (by rw [hGe]; rfl)
      have c6 := gcell 6 m6 (by rw [hGe]; rfl)
      have c7 := gcell 7 m7 (by rw [hGe]; rfl)
      have hSl : ∀ m ∈ G, Sl .u64 wr m.a m.c m.xs := fun m hm => own_rd (HG.out.own m hm)
      have hG8 := HG.out.n8
      have HG8 := Lib.hid hG8; clear hG8
      have HSL := Lib.hid hSl; clear hSl
      have HGE := Lib.hid hGe; clear hGe
      have HFX2 := Lib.hid hFX2; clear hFX2
      have HGX2 := Lib.hid hGX2; clear hGX2
      have HNN : Hid (zs.length ≤ 100) := by unfold Hid; omega
      clear gcell HFX HGX HSP HG
      go_wp2_with fail
      clear c0 c1 c2 c3 c4 c5 c6 c7
      go_loopg [48] 8 (fun gh iv wx => ∃ (t : Nat) (F' : List Ln), gh = 8 - t ∧ t ≤ 8 ∧ iv = .int .i64 t ∧ Ls wx g F' ∧ (∀ j, j < 8 → (F'.getD j default).xs = if j < t then [] else last4 (idsOf zs j)) ∧ (∀ m ∈ G, Sl .u64 wx m.a m.c m.xs) ∧ RowKit.Below w.heap.size w wx)
      case atStart => exact ⟨0, F, rfl, by omega, rfl, HF.out, (fun j hj => by rw [if_neg (by omega)]; exact HFX2.out j hj), HSL.out, HB.out⟩
      case round =>
        clear HF HB HSL HFX2
        obtain ⟨t, F', rfl, ht, rfl, hF', hFx', hSl', hB'⟩ := hrel
        have HF' := Lib.hid hF'; clear hF'
        have HFX' := Lib.hid hFx'; clear hFx'
        have HSL' := Lib.hid hSl'; clear hSl'
        have HB' := Lib.hid hB'; clear hB'
        by_cases htl : t < 8
        · obtain ⟨m, hm⟩ : ∃ m, G[t]? = some m := ⟨_, List.getElem?_eq_getElem (by rw [HG8.out]; exact htl)⟩
          have hix := idx8 m0 m1 m2 m3 m4 m5 m6 m7 m t (by rw [← HGE.out]; exact hm)
          have hmx : m.xs = idsOf zs t := by have := HGX2.out t htl; rwa [List.getD_eq_getElem?_getD, hm, Option.getD_some] at this
          have hml : m.xs.length ≤ 100 := by rw [hmx]; exact Nat.le_trans (idsOf_le _ _) HNN.out
          have hmG : m ∈ G := List.mem_of_getElem? hm
          have HMG := Lib.hid hmG; clear hmG hm
          have HMX := Lib.hid hmx; clear hmx
          obtain ⟨ma, mc, ms⟩ := m
          dsimp only at *
          obtain ⟨nn, hnn, hcase⟩ : ∃ nn : Nat, nn = min ms.length 4 ∧ (nn = 4 ∧ 4 ≤ ms.length ∨ nn = ms.length ∧ ms.length < 4) := ⟨_, rfl, by omega⟩
          have HNN2 := Lib.hid hnn; clear hnn
          rcases hcase with ⟨rfl, hcase⟩ | ⟨rfl, hcase⟩
          all_goals
            have htd : decide ((t : Int) < 8) = true := decide_eq_true (by omega)
            go_wp2_with fail
            clear hix
            obtain ⟨wo, hwo⟩ : ∃ wo : World, wo = wr := ⟨_, rfl⟩
            subst hwo
            go_loopg [55] (min ms.length 4) (fun gh iv wy => ∃ (i : Nat) (F2 : List Ln), gh = min ms.length 4 - i ∧ i ≤ min ms.length 4 ∧ iv = .int .i64 i ∧ Ls wy g F2 ∧ (∀ j, j < 8 → (F2.getD j default).xs = if j < t then [] else if j = t then tkL ms i else last4 (idsOf zs j)) ∧ (∀ m ∈ G, Sl .u64 wy m.a m.c m.xs) ∧ RowKit.Below w.heap.size w wy)
            case atStart => exact ⟨0, F', rfl, by omega, rfl, HF'.out, (fun j hj => by
              rw [HFX'.out j hj]
              by_cases e : j < t
              · rw [if_pos e, if_pos e]
              · rw [if_neg e, if_neg e]
                by_cases e2 : j = t
                · subst e2; rw [if_pos rfl, tkL_zero, HMX.out]
                · rw [if_neg e2]), HSL'.out, HB'.out⟩
            case round =>
              clear HF' HB' HSL' HFX'
              obtain ⟨i, F2, rfl, hi, rfl, hF2, hFx2, hSl2, hB2⟩ := hrel
              obtain ⟨l, hl⟩ := hF2.get htl
              have hlx : l.xs = tkL ms i := by have := hFx2 t htl; rwa [List.getD_eq_getElem?_getD, hl, Option.getD_some, if_neg (by omega), if_pos rfl] at this
              have HF2 := Lib.hid hF2; clear hF2
              have HFX2 := Lib.hid hFx2; clear hFx2
              have HSL2 := Lib.hid hSl2; clear hSl2
              have HB2 := Lib.hid hB2; clear hB2
              by_cases hil : i < min ms.length 4
              · have hlast := tkL_last ms i hil
                have hdrop := tkL_drop ms i hil
                have htake := local_Take g F2 t l (ms.getD (ms.length - 1 - i) 0) hl wr HF2.out (by rw [hlx]; exact hlast)
                have hsm := HSL2.out _ HMG.out
                dsimp only at hsm
                obtain ⟨b, off, hab, hbs, hc⟩ := hsm.at_ (by omega)
                have hcx := hc (ms.length - 1 - i) (by omega)
                have HCX := Lib.hid hcx; clear hcx hc
                have HSM := Lib.hid hsm; clear hsm
                generalize ms.getD (ms.length - 1 - i) 0 = x at *
                have HT := Lib.hid htake; clear htake
                have HLX := Lib.hid hlx; clear hlx
                have HLL := Lib.hid hl; clear hl
                have HD := Lib.hid hdrop; clear hdrop hlast
                subst hab
                have e0 : (0 : Int) ≤ (ms.length : Int) - 1 - (i : Int) := by omega
                have e1 : ((ms.length : Int) - 1 - (i : Int)).toNat = ms.length - 1 - i := by omega
                have e2 : (ms.length : Int) - 1 - (i : Int) < (ms.length : Int) := by omega
                have hil4 : i < 4 := by omega
                have hilm : i < ms.length := by omega
                go_wp2_with fail
                refine HT.out.mono ?_
                rintro e w5 ⟨rfl, hls5, hg5⟩
                have hs5 := HSM.out.kept_g HF2.out hg5
                have c5 : w5.cell? ⟨b, off + (ms.length - 1 - i), none⟩ = some (.int .u64 x) := by
                  have hne : b ≠ g := fun e => (HSM.out.apart2 HF2.out.blk Ls.noint (by omega) _ rfl) (by rw [e])
                  rw [World.cell?_of_block (w := wr) (hg5.block b hbs hne)]; exact HCX.out
                have hsl5 : ∀ m ∈ G, Sl .u64 w5 m.a m.c m.xs := fun m hm => (HSL2.out m hm).kept_g HF2.out hg5
                have hb5 := hg5.below HB2.out (fun z _ hz => by rw [hz]; exact hgw) HB2.out.size
                have HS5 := Lib.hid hsl5; clear hsl5 hs5
                have HB5 := Lib.hid hb5; clear hb5
                have HL5 := Lib.hid hls5; clear hls5
                have HG5 := Lib.hid hg5; clear hg5
                go_wp2_with fail
                go_roundg (min ms.length 4 - (i + 1))
                case measure => omega
                case rel =>
                  refine ⟨i + 1, F2.set t ⟨l.a, l.c, l.xs.dropLast⟩, rfl, by omega, by go_num, HL5.out, fun j hj => ?_, HS5.out, HB5.out⟩
                  have h8 := HF2.out.n8
                  by_cases e : j = t
                  · subst e
                    rw [List.getD_eq_getElem?_getD, List.getElem?_set_self (by omega), Option.getD_some, if_neg (by omega), if_pos rfl, HLX.out, HD.out]
                  · rw [List.getD_eq_getElem?_getD, List.getElem?_set_ne (fun e' => e e'.symm), ← List.getD_eq_getElem?_getD, HFX2.out j hj, if_neg e, if_neg e]
              · have hie : i = min ms.length 4 := by omega
                have hem := local_Take_empty g F2 t l hl wr HF2.out (by rw [hlx]; exact tkL_end ms i (by omega))
                have HEM := Lib.hid hem; clear hem
                have HLX := Lib.hid hlx; clear hlx hl
                have hil4 : ¬ (i < 4 ∧ i < ms.length) := by omega
                have hik : min ms.length 4 ≤ i := by omega
                have HIE := Lib.hid hie; clear hie
                first | (have hfact : 4 ≤ i := by omega) | (have hfact : ms.length ≤ i := by omega)
                clear hil hil4
                go_wp2_with fail
                refine HEM.out.mono ?_
                rintro e w5 ⟨rfl, rfl⟩
                go_wp2_with fail
                go_roundg (8 - (t + 1))
                case measure => omega
                case rel =>
                  refine ⟨t + 1, F2, rfl, by omega, by go_num, HF2.out, fun j hj => ?_, HSL2.out, HB2.out⟩
                  rw [HFX2.out j hj]
                  by_cases e : j < t
                  · rw [if_pos e, if_pos (by omega)]
                  · rw [if_neg e]
                    by_cases e2 : j = t
                    · subst e2; rw [if_pos rfl, if_pos (by omega)]; exact tkL_end ms i hik
                    · rw [if_neg e2, if_neg (by omega)]
        · obtain rfl : t = 8 := by omega
          have hz : lensN F' = 0 := lensN_zero fun l hl => by
            obtain ⟨i, hi⟩ := List.mem_iff_getElem?.1 hl
            have hi8 : i < 8 := by have := (List.getElem?_eq_some_iff.1 hi).1; rwa [HF'.out.n8] at this
            have := HFX'.out i hi8
            rwa [List.getD_eq_getElem?_getD, hi, Option.getD_some, if_pos hi8] at this
          have hlen := local_Len g F' wr HF'.out
          rw [hz] at hlen
          have HLEN := Lib.hid hlen; clear hlen hz
          go_wp2_with fail
          refine (local_Take_nil _ _).mono ?_
          rintro e w8 ⟨rfl, rfl⟩
          go_wp2_with fail
          refine HLEN.out.mono ?_
          rintro e w9 ⟨rfl, hb9⟩
          have HB9 := Lib.hid (below_step HB'.out HB'.out.size hb9); clear hb9
          go_wp2_with (first
            | (go_at_call 48; refine (local_Put_nil _ _ _).mono ?_; rintro e w10 ⟨rfl, rfl⟩)
            | (go_at_call 54; refine (local_Len_nil _).mono ?_; rintro e w10 ⟨rfl, rfl⟩)
            | (go_at_call 53; refine (local_All_nil _ _).mono ?_; rintro e w10 ⟨rfl, rfl⟩)
            | (go_at_call 47; refine (local_Clone_nil _).mono ?_; rintro e w10 ⟨rfl, rfl⟩))
          go_ret
          exact ⟨rfl, HB9.out.alloc HB9.out.size _⟩
end Go.Proofs.YtonfaojmphidpaaGreatDoor
