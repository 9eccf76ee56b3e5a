/- The document's lists of layer 5: timers of a key and a tick. -/
import Derived.Test.YtlfnoailaoiedaaTabSort
import Derived.Test.YtlfnoailaoiedaaSlFn
import Derived.Test.YtlfnoailaoiedaaWheel2
namespace Go.Proofs.Ytlfnoailaoiedaa
open Go.RowKit Go.Maps
set_option linter.unusedVariables false
set_option linter.unusedSimpArgs false

def tcells : List (Int × Int) → List Value
  | [] => []
  | p :: T => .int .u64 p.1 :: .int .u64 p.2 :: tcells T
theorem tcells_append (A B : List (Int × Int)) : tcells (A ++ B) = tcells A ++ tcells B := by
  induction A with
  | nil => rfl
  | cons p A ih => simp [tcells, ih]
theorem tcells_length (T : List (Int × Int)) : (tcells T).length = T.length * 2 := by
  induction T with
  | nil => rfl
  | cons p T ih => simp [tcells, ih]; omega
theorem tcells_get {T : List (Int × Int)} {k : Nat} {p : Int × Int} (h : T[k]? = some p) : (tcells T)[k * 2]? = some (.int .u64 p.1) ∧ (tcells T)[k * 2 + 1]? = some (.int .u64 p.2) := by
  induction T generalizing k with
  | nil => simp at h
  | cons q T ih =>
    cases k with
    | zero => simp at h; subst h; exact ⟨rfl, rfl⟩
    | succ k =>
      have := ih (k := k) (by simpa using h)
      rw [show (k + 1) * 2 = k * 2 + 1 + 1 by omega]
      simpa [tcells] using this
theorem tcells_one (T : List (Int × Int)) : ∀ u ∈ tcells T, u.oneCell' = true := by
  induction T with
  | nil => intro u hu; cases hu
  | cons p T ih =>
    intro u hu
    rcases List.mem_cons.1 hu with rfl | hu
    · rfl
    · rcases List.mem_cons.1 hu with rfl | hu
      · rfl
      · exact ih u hu
theorem tcells_drop (T : List (Int × Int)) (k : Nat) : tcells (T.drop k) = (tcells T).drop (k * 2) := by
  induction k generalizing T with
  | zero => rfl
  | succ k ih =>
    cases T with
    | nil => simp [tcells]
    | cons p T =>
      rw [show (k + 1) * 2 = k * 2 + 1 + 1 by omega]
      simpa [tcells] using ih T
theorem tcells_take (T : List (Int × Int)) (k : Nat) : tcells (T.take k) = (tcells T).take (k * 2) := by
  induction k generalizing T with
  | zero => simp [tcells]
  | succ k ih =>
    cases T with
    | nil => simp [tcells]
    | cons p T =>
      rw [show (k + 1) * 2 = k * 2 + 1 + 1 by omega]
      simpa [tcells] using ih T
/-- The slice at a, of T.length timers, reads as T. -/
def Tm (w : World) (a : Option Addr) (cap : Nat) (T : List (Int × Int)) : Prop := Rd 2 w a T.length cap (tcells T)
theorem Tm.rd {w : World} {a : Option Addr} {cap : Nat} {T : List (Int × Int)} (h : Tm w a cap T) : Rd 2 w a T.length cap (tcells T) := h
theorem Tm.below {w w' : World} {a : Option Addr} {cap : Nat} {T : List (Int × Int)} (h : Tm w a cap T) (hb : RowKit.Below w.heap.size w w') : Tm w' a cap T := Rd.below h hb
theorem Tm.at_ {w : World} {a : Option Addr} {cap : Nat} {T : List (Int × Int)} (h : Tm w a cap T) (h0 : 0 < T.length) :
    ∃ b off, a = some ⟨b, off, none⟩ ∧ b < w.heap.size ∧ ∀ k p, T[k]? = some p → w.cell? ⟨b, off + k * 2, none⟩ = some (.int .u64 p.1) ∧ w.cell? ⟨b, off + k * 2 + 1, none⟩ = some (.int .u64 p.2) := by
  obtain ⟨b, off, ha, hb, hc⟩ := h.2.2.2 h0
  exact ⟨b, off, ha, hb, fun k p hp => ⟨hc _ _ (tcells_get hp).1, by have := hc _ _ (tcells_get hp).2; rwa [← Nat.add_assoc] at this⟩⟩
theorem Tm.drop {w : World} {b off cap : Nat} {T : List (Int × Int)} (h : Tm w (some ⟨b, off, none⟩) cap T) {k : Nat} (hk : k ≤ T.length) (hb : b < w.heap.size) : Tm w (some ⟨b, off + k * 2, none⟩) (cap - k) (T.drop k) := by
  refine ⟨by rw [tcells_length], by have := h.2.1; simp; omega, (fun e => by cases e), fun h0 => ⟨b, off + k * 2, rfl, hb, fun i v hi => ?_⟩⟩
  rw [tcells_drop, List.getElem?_drop] at hi
  obtain ⟨b', off', ha, _, hc⟩ := h.2.2.2 (by simp at h0; omega)
  cases ha
  rw [Nat.add_assoc]; exact hc _ _ hi
theorem Tm.take {w : World} {a : Option Addr} {cap cap' : Nat} {T : List (Int × Int)} (h : Tm w a cap T) {k : Nat} (hk : k ≤ T.length) (hc : k ≤ cap') (hn : a = none → cap' = 0) : Rd 2 w a k cap' (tcells (T.take k)) := by
  refine ⟨by rw [tcells_length]; simp; omega, hc, hn, fun h0 => ?_⟩
  obtain ⟨b, off, ha, hb, hcs⟩ := h.2.2.2 (by omega)
  refine ⟨b, off, ha, hb, fun i v hi => hcs i v ?_⟩
  rw [tcells_take, List.getElem?_take] at hi
  split at hi
  · exact hi
  · cases hi
theorem Tm.drop_rd {w : World} {b off cap : Nat} {T : List (Int × Int)} (h : Tm w (some ⟨b, off, none⟩) cap T) {k : Nat} (hk : k ≤ T.length) (hb : b < w.heap.size) : Rd 2 w (some ⟨b, off + k * 2, none⟩) (T.length - k) (cap - k) (tcells (T.drop k)) := by
  have := h.drop hk hb; unfold Tm at this; rwa [List.length_drop] at this
theorem Try.infoT : (Try.prog.info? 88).map (fun i => (i.zero, i.size, i.bytes)) = some (some (.agg #[.int .u64 0, .int .u64 0]), 2, 16) := by kernel_rfl
theorem strike_snoc (T : List (Int × Int)) (k : Nat) (n : Int) (p : Int × Int) (h : T[k]? = some p) : strike (T.take (k + 1)) n = strike (T.take k) n ++ (if p.1 = n then [] else [p]) := by
  obtain ⟨hk, rfl⟩ := List.getElem?_eq_some_iff.1 h
  rw [List.take_succ_eq_append_getElem hk]
  unfold strike
  rw [List.filter_append]
  congr 1
  by_cases e : T[k].1 = n <;> simp [e]
theorem strike_le (T : List (Int × Int)) (n : Int) : (strike T n).length ≤ T.length := List.length_filter_le _ _
theorem keys_take_succ (T : List (Int × Int)) (k : Nat) (n : Int) (p : Int × Int) (h : T[k]? = some p) : (n ∈ keysOf (T.take (k + 1))) ↔ (n ∈ keysOf (T.take k) ∨ p.1 = n) := by
  obtain ⟨hk, rfl⟩ := List.getElem?_eq_some_iff.1 h
  rw [List.take_succ_eq_append_getElem hk]
  unfold keysOf
  rw [List.map_append, List.mem_append]
  simp [eq_comm]

set_option maxRecDepth 100000 in
set_option maxHeartbeats 2000000 in
theorem ref05_Without (a : Option Addr) (cap : Nat) (T : List (Int × Int)) (n : Int) (w : World) (h : Tm w a cap T) (hl : T.length ≤ 100000) :
    Calls Try.prog 43 #[.slice a T.length cap, .int .u64 n] w fun e w' => ∃ a' cap', e = .returned (.tuple #[.slice a' (strike T n).length cap', .bool (decide (n ∈ keysOf T))]) ∧
      w'.ownsRow w.heap.size 88 2 (.slice a' (strike T n).length cap') (strike T n).length (tcells (strike T n)) ∧ RowKit.Below w.heap.size w w' := by
  go_enter Try.func43, Try.ntmps43
  go_wp2
  go_loopw [6, 7, 12] (fun v u i wr => ∃ (k : Nat) (Y : List (Int × Int)) (A1 : Option Addr) (c1 : Nat) (B : Bool), k ≤ T.length ∧ i = .int .i64 k ∧ Y = strike (T.take k) n ∧ v = .slice A1 Y.length c1 ∧ u = .bool B ∧ B = decide (n ∈ keysOf (T.take k)) ∧
      wr.ownsRow w.heap.size 88 2 (.slice A1 Y.length c1) Y.length (tcells Y) ∧ RowKit.Below w.heap.size w wr) (fun _ _ i _ => T.length - (intOf i).toNat)
  case atStart => exact ⟨0, [], none, 0, false, by omega, rfl, by simp [strike], rfl, rfl, by simp [keysOf], World.ownsRow_nil _ _ _ _, Below.refl _ _⟩
  case round =>
    obtain ⟨k, Y, A1, c1, B, hk, rfl, hY, rfl, rfl, hB0, hown, hB⟩ := hrel
    have hyl : Y.length ≤ k := by rw [hY]; have := strike_le (T.take k) n; have := List.length_take_le k T; omega
    have HY := Lib.hid hY; clear hY
    have HB0 := Lib.hid hB0; clear hB0
    have HO := Lib.hid hown; clear hown
    by_cases hlt : k < T.length
    · obtain ⟨b, off, rfl, hbs, hc⟩ := h.at_ (by omega)
      obtain ⟨p, hp⟩ : ∃ p, T[k]? = some p := ⟨_, List.getElem?_eq_getElem hlt⟩
      have c0 := (hB.cell (p := ⟨b, off + k * 2, none⟩) hbs).trans (hc k p hp).1
      have c1' := (hB.cell (p := ⟨b, off + k * 2 + 1, none⟩) hbs).trans (hc k p hp).2
      clear hc
      have hsn := strike_snoc T k n p hp
      have hkm := keys_take_succ T k n p hp
      have HK := Lib.hid hkm; clear hkm
      obtain ⟨pk, pa⟩ := p
      clear hp
      dsimp only at c0 c1' hsn
      have hzw := hB.size
      by_cases hx : pk = n
      · rw [if_pos hx, List.append_nil] at hsn
        have HS := Lib.hid hsn; clear hsn
        subst hx
        go_wp2
        go_roundw
        case rel => exact ⟨k + 1, Y, A1, c1, true, by omega, by go_num, by rw [HS.out]; exact HY.out, rfl, rfl, by rw [eq_comm, decide_eq_true_eq]; exact HK.out.2 (.inr rfl), HO.out.alloc _, hB.alloc hB.size _⟩
        case measure => simp [intOf]; omega
      · rw [if_neg hx] at hsn
        have HS := Lib.hid hsn; clear hsn
        have hx' : (pk == n) = false := by simpa using hx
        go_wp2_with (at_builtin; refine app_one (wr.alloc (.cells #[.int .u64 pk, .int .u64 pa] 88)) rfl (.tmp 20) (.tmp 22) 79 rfl w.heap.size 88 (.agg #[.int .u64 0, .int .u64 0]) 2 16 Try.underlying79 Try.infoT rfl (by decide) (.slice A1 Y.length c1) Y.length _ rfl (HO.out.alloc _) [.int .u64 pk, .int .u64 pa] rfl (by rw [size_alloc]; rfl) (by simp [Value.oneCell']) (by omega) (by omega) (by simp; omega) ?_; intro A2 c2 w2 h5 h6 h7)
        have e1 : (Y ++ [(pk, pa)]).length = Y.length + 1 := by simp
        have e2 : tcells (Y ++ [(pk, pa)]) = tcells Y ++ [.int .u64 pk, .int .u64 pa] := by rw [tcells_append]; rfl
        go_roundw
        case rel => exact ⟨k + 1, Y ++ [(pk, pa)], A2, c2, B, by omega, by go_num, by rw [HS.out, ← HY.out], by rw [e1], rfl, by rw [HB0.out, decide_eq_decide]; exact ⟨fun h => HK.out.2 (.inl h), fun h => (HK.out.1 h).resolve_right hx⟩, by rw [e1, e2]; exact h5, (hB.alloc hB.size _).grown h6 (by simp; omega) (fun k hk => own_base HO.out k hk)⟩
        case measure => simp [intOf]; omega
    · have e : Y = strike T n := by rw [HY.out, List.take_of_length_le (by omega)]
      have e2 : B = decide (n ∈ keysOf T) := by rw [HB0.out, List.take_of_length_le (by omega)]
      have HE := Lib.hid e; clear e
      have HE2 := Lib.hid e2; clear e2
      go_wp2
      go_ret2
      rw [← HE.out, ← HE2.out]
      exact ⟨A1, c1, rfl, HO.out, hB⟩

set_option maxRecDepth 100000 in
set_option maxHeartbeats 2000000 in
theorem ref05_Due (a : Option Addr) (cap : Nat) (T : List (Int × Int)) (now : Int) (w : World) (h : Tm w a cap T) (hl : T.length ≤ 100000) :
    Calls Try.prog 44 #[.slice a T.length cap, .int .u64 now] w fun e w' => ∃ a' cap' a2 c2, e = .returned (.tuple #[.slice a' (restT T now).length cap', .slice a2 (dueT T now).length c2]) ∧
      Tm w' a' cap' (restT T now) ∧ w'.ownsRow w.heap.size 22 1 (.slice a2 (dueT T now).length c2) (dueT T now).length (nums .u64 (keysOf (dueT T now))) ∧ RowKit.Below w.heap.size w w' := by
  go_enter Try.func44, Try.ntmps44
  go_wp2
  go_loopw [6, 7] (fun v i wr => ∃ (k : Nat) (A1 : Option Addr) (c1 : Nat), k ≤ T.length ∧ i = .int .i64 k ∧ v = .slice A1 k c1 ∧ (∀ p ∈ T.take k, p.2 ≤ now) ∧
      wr.ownsRow w.heap.size 22 1 (.slice A1 k c1) k (nums .u64 (keysOf (T.take k))) ∧ RowKit.Below w.heap.size w wr) (fun _ i _ => T.length - (intOf i).toNat)
  case atStart => exact ⟨0, none, 0, by omega, rfl, rfl, (fun p hp => by simp at hp), World.ownsRow_nil _ _ _ _, Below.refl _ _⟩
  case round =>
    obtain ⟨k, A1, c1, hk, rfl, rfl, hall, hown, hB⟩ := hrel
    have HA := Lib.hid hall; clear hall
    have HO := Lib.hid hown; clear hown
    have e3 : (T.take k).length = k := by simp; omega
    have HE3 := Lib.hid e3; clear e3
    by_cases hlt : k < T.length
    · obtain ⟨b, off, rfl, hbs, hc⟩ := h.at_ (by omega)
      obtain ⟨p, hp⟩ : ∃ p, T[k]? = some p := ⟨_, List.getElem?_eq_getElem hlt⟩
      have c0 := (hB.cell (p := ⟨b, off + k * 2, none⟩) hbs).trans (hc k p hp).1
      have c1' := (hB.cell (p := ⟨b, off + k * 2 + 1, none⟩) hbs).trans (hc k p hp).2
      clear hc
      have e1 : T.take (k + 1) = T.take k ++ [p] := by
        obtain ⟨_, rfl⟩ := List.getElem?_eq_some_iff.1 hp; exact List.take_succ_eq_append_getElem hlt
      have HP := Lib.hid hp; clear hp
      have HE1 := Lib.hid e1; clear e1
      have hzw := hB.size
      by_cases hx : now < p.2
      · have hx' : ¬ p.2 ≤ now := by omega
        have hd := dueT_of HA.out (.inr ⟨p, HP.out, hx⟩)
        have HD := Lib.hid hd; clear hd
        have hcap := h.2.1
        have hkc : k ≤ cap := by omega
        have hdl : (T.drop k).length = T.length - k := by simp
        have HDL := Lib.hid hdl; clear hdl
        go_wp2
        go_ret2
        rw [HD.out.1, HD.out.2, HE3.out, HDL.out]
        exact ⟨_, _, A1, c1, rfl, (h.drop hk hbs).below hB, HO.out, hB⟩
      · have hx' : p.2 ≤ now := by omega
        go_wp2_with (at_builtin; refine app_one wr rfl (.tmp 21) (.tmp 27) 46 rfl w.heap.size 22 (.int .u64 0) 1 8 Try.underlying46 Try.infoU rfl (by decide) (.slice A1 k c1) k _ rfl HO.out [.int .u64 p.1] rfl rfl (by simp [Value.oneCell']) (by omega) (by omega) hzw ?_; intro A2 c2 w2 h5 h6 h7)
        have e2 : nums .u64 (keysOf (T.take (k + 1))) = nums .u64 (keysOf (T.take k)) ++ [.int .u64 p.1] := by rw [HE1.out]; simp [nums, keysOf]
        go_roundw
        case rel =>
          refine ⟨k + 1, A2, c2, by omega, by go_num, rfl, fun q hq => ?_, by rw [e2]; exact h5, hB.grown h6 hB.size (fun k hk => own_base HO.out k hk)⟩
          rw [HE1.out] at hq
          rcases List.mem_append.1 hq with hq | hq
          · exact HA.out q hq
          · rw [List.mem_singleton.1 hq]; exact hx'
        case measure => simp [intOf]; omega
    · have hkl : k = T.length := by omega
      have hd := dueT_of HA.out (.inl (by omega))
      have HD := Lib.hid hd; clear hd
      have hcap := h.2.1
      have hdl : (T.drop k).length = T.length - k := by simp
      have HDL := Lib.hid hdl; clear hdl
      subst hkl
      cases a with
      | none =>
        have h0 : cap = 0 := h.2.2.1 rfl
        have hT0 : T = [] := List.eq_nil_of_length_eq_zero (by omega)
        subst hT0 h0
        go_wp2
        go_ret2
        rw [HD.out.1, HD.out.2]
        exact ⟨none, 0, A1, c1, rfl, Rd.nil_ _ _, HO.out, hB⟩
      | some ad =>
        go_wp2
        all_goals
          go_ret2
          rw [HD.out.1, HD.out.2, HE3.out, List.drop_of_length_le (Nat.le_refl _)]
          exact ⟨_, _, A1, c1, rfl, ⟨rfl, Nat.zero_le _, (fun e => by cases e), fun h0 => absurd h0 (by simp)⟩, HO.out, hB⟩
end Go.Proofs.Ytlfnoailaoiedaa
