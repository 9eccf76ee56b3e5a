/- Chapter 10: the factory: Open, Prove, Close, IsOpen, Opened, Closed, IDs, New. -/
import Derived.Test.YtonfaojmphidpaaGreatDoorFacA
namespace Go.Proofs.YtonfaojmphidpaaGreatDoor
open Go.RowKit Go.Maps
set_option linter.unusedVariables false
set_option linter.unusedSimpArgs false

section
variable {w w' : World} {g b : Nat} {a1 : Option Addr} {c1 : Nat} {xs : List Bool} {a2 : Option Addr} {c2 : Nat} {ys : List Bool} {t : Int} {S : List Int}
theorem Fc.turn (h : Fc w g b a1 c1 xs a2 c2 ys t S) (hg : Grew w w' (· = g)) {a1' : Option Addr} {c1' : Nat} {xs' : List Bool} {a2' : Option Addr} {c2' : Nat} {ys' : List Bool} {t' : Int}
    (hb : Blk w' g 131 #[.slice a1' xs'.length c1', .slice a2' ys'.length c2', .int .u64 t', .map (some b)]) (h1 : Bs w a1' c1' xs') (h2 : Bs w a2' c2' ys') (ht0 : 0 ≤ t') (ht1 : t' ≤ 1000) (hin : ∀ k ∈ S, 1 ≤ k ∧ k ≤ t') (hl1 : xs'.length ≤ 1000) (hl2 : ys'.length ≤ 1000) :
    Fc w' g b a1' c1' xs' a2' c2' ys' t' S :=
  ⟨hb, h1.grew hg (fun q hq h0 e => h1.apart h.blk Fc.nobool h0 q hq e), h2.grew hg (fun q hq h0 e => h2.apart h.blk Fc.nobool h0 q hq e), h.st.kept (hg.to_grown (r := some g) (fun k hk => by rw [hk])) (fun e => h.ne (Option.some.inj e).symm), ht0, ht1, hin, hl1, hl2⟩
end
theorem grew_set2 (w : World) (g i j : Nat) (u v : Value) : Grew w ((w.setCell ⟨g, i, none⟩ u).setCell ⟨g, j, none⟩ v) (· = g) := (Grew.set w ⟨g, i, none⟩ u).trans (Grew.set _ ⟨g, j, none⟩ v) (fun k _ hk => hk)
def nx (xs : List Bool) : Bool := xs.headD true
/-- What Open leaves. -/
def FcOpened (g b : Nat) (a2 : Option Addr) (c2 : Nat) (xs ys : List Bool) (t : Int) (S : List Int) (w w' : World) : Prop := ∃ a1 c1, Fc w' g b a1 c1 xs.tail a2 c2 ys (if nx xs then t + 1 else t) S ∧ Grew w w' (· = g)

set_option maxHeartbeats 1000000 in
theorem factory_Open (g b : Nat) (a1 : Option Addr) (c1 : Nat) (xs : List Bool) (a2 : Option Addr) (c2 : Nat) (ys : List Bool) (t : Int) (S : List Int) (w : World) (h : Fc w g b a1 c1 xs a2 c2 ys t S) (ht : t < 1000) :
    Calls Tryz.prog 16 #[.pointer (some ⟨g, 0, none⟩)] w fun e w' => e = .returned (.tuple #[.int .u64 (if nx xs then t + 1 else 0), .bool (nx xs)]) ∧ FcOpened g b a2 c2 xs ys t S w w' := by
  have p0 := h.blk.cell 0
  have p1 := h.blk.frozen 0
  have p2 := h.blk.cell 2
  have p3 := h.blk.frozen 2
  have p4 := h.blk.lt
  have ht0 := h.t0
  simp only [List.getElem?_toArray, List.getElem?_cons_zero, List.getElem?_cons_succ] at p0 p2
  have HH := Lib.hid h; clear h
  cases xs with
  | nil =>
    have hnx := factory_next_nil ⟨g, 0, none⟩ a1 c1 w p0
    have HNX := Lib.hid hnx; clear hnx
    simp only [nx, List.headD_nil, if_true, List.length_nil] at p0 ⊢
    go_enter Tryz.func16, Tryz.ntmps16
    go_wp2_with (go_at_call 77; refine HNX.out.mono ?_; rintro e w' ⟨rfl, rfl⟩)
    go_ret2
    have hb := HH.out.blk.put 2 (.int .u64 (t + 1))
    exact ⟨rfl, a1, c1, by simpa [nx] using HH.out.turn (Grew.set w ⟨g, 2, none⟩ _) (xs' := []) hb HH.out.r1 HH.out.r2 (by omega) (by omega) (fun k hk => by have := HH.out.in_ k hk; omega) (by simp) HH.out.l2, Grew.set w ⟨g, 2, none⟩ _⟩
  | cons x xs =>
    have hl := HH.out.l1
    simp only [List.length_cons] at hl p0
    have hnx := factory_next_cons g 0 a1 c1 x xs w p0 p1 HH.out.r1 (by omega)
    have HNX := Lib.hid hnx; clear hnx
    simp only [nx, List.headD_cons] at p0 ⊢
    cases x with
    | true =>
      go_enter Tryz.func16, Tryz.ntmps16
      go_wp2_with (go_at_call 77; refine HNX.out.mono ?_; rintro e w' ⟨a', c', rfl, rfl, hbs, -⟩)
      go_ret2
      have hb := (HH.out.blk.put 0 (.slice a' xs.length c')).put 2 (.int .u64 (t + 1))
      have hg := grew_set2 w g 0 2 (.slice a' xs.length c') (.int .u64 (t + 1))
      exact ⟨rfl, a', c', by simpa [nx] using HH.out.turn hg hb hbs HH.out.r2 (by omega) (by omega) (fun k hk => by have := HH.out.in_ k hk; omega) (by omega) HH.out.l2, hg⟩
    | false =>
      go_enter Tryz.func16, Tryz.ntmps16
      go_wp2_with (go_at_call 77; refine HNX.out.mono ?_; rintro e w' ⟨a', c', rfl, rfl, hbs, -⟩)
      go_ret2
      have hb := HH.out.blk.put 0 (.slice a' xs.length c')
      have hg := Grew.set w ⟨g, 0, none⟩ (.slice a' xs.length c')
      exact ⟨rfl, a', c', by simpa [nx] using HH.out.turn hg hb hbs HH.out.r2 (by omega) (by omega) HH.out.in_ (by omega) HH.out.l2, hg⟩

/-- What Prove leaves, where the id is open. -/
def FcProved (g b : Nat) (a1 : Option Addr) (c1 : Nat) (xs ys : List Bool) (t : Int) (S : List Int) (w w' : World) : Prop := ∃ a2 c2, Fc w' g b a1 c1 xs a2 c2 ys.tail t S ∧ Grew w w' (· = g)
set_option maxHeartbeats 1000000 in
theorem factory_Prove_no (g b : Nat) (a1 : Option Addr) (c1 : Nat) (xs : List Bool) (a2 : Option Addr) (c2 : Nat) (ys : List Bool) (t : Int) (S : List Int) (id : Int) (w : World) (h : Fc w g b a1 c1 xs a2 c2 ys t S) (hid : In64 id) (hk : knownF t S id 6 ≠ 0) :
    Calls Tryz.prog 17 #[.pointer (some ⟨g, 0, none⟩), .int .u64 id] w fun e w' => e = .returned (.tuple #[.bool false, .int .i64 (knownF t S id 6)]) ∧ w = w' := by
  have hkn := factory_known g b a1 c1 xs a2 c2 ys t S id 6 w h hid
  generalize knownF t S id 6 = r at *
  have hr : (r != 0) = true := by simpa using hk
  have HKN := Lib.hid hkn; clear hkn h hk
  go_enter Tryz.func17, Tryz.ntmps17
  go_wp2_with (go_at_call 78; refine HKN.out.mono ?_; rintro e w' ⟨rfl, rfl⟩)
  go_ret2
  exact ⟨rfl, rfl⟩
set_option maxHeartbeats 1000000 in
theorem factory_Prove_yes (g b : Nat) (a1 : Option Addr) (c1 : Nat) (xs : List Bool) (a2 : Option Addr) (c2 : Nat) (ys : List Bool) (t : Int) (S : List Int) (id : Int) (w : World) (h : Fc w g b a1 c1 xs a2 c2 ys t S) (hid : In64 id) (hk : knownF t S id 6 = 0) :
    Calls Tryz.prog 17 #[.pointer (some ⟨g, 0, none⟩), .int .u64 id] w fun e w' => e = .returned (.tuple #[.bool (nx ys), .int .i64 0]) ∧ FcProved g b a1 c1 xs ys t S w w' := by
  have hkn := factory_known g b a1 c1 xs a2 c2 ys t S id 6 w h hid
  rw [hk] at hkn
  have p0 := h.blk.cell 1
  have p1 := h.blk.frozen 1
  simp only [List.getElem?_toArray, List.getElem?_cons_zero, List.getElem?_cons_succ] at p0
  have HH := Lib.hid h; clear h hk
  have HKN := Lib.hid hkn; clear hkn
  cases ys with
  | nil =>
    have hnx := factory_next_nil ⟨g, 1, none⟩ a2 c2 w p0
    have HNX := Lib.hid hnx; clear hnx
    simp only [nx, List.headD_nil, List.length_nil] at p0 ⊢
    go_enter Tryz.func17, Tryz.ntmps17
    go_wp2_with (first | (go_at_call 78; refine HKN.out.mono ?_; rintro e w' ⟨rfl, rfl⟩) | (go_at_call 77; refine HNX.out.mono ?_; rintro e w' ⟨rfl, rfl⟩))
    go_ret2
    exact ⟨rfl, a2, c2, HH.out, Grew.refl _ _⟩
  | cons y ys =>
    have hl := HH.out.l2
    simp only [List.length_cons] at hl p0
    have hnx := factory_next_cons g 1 a2 c2 y ys w p0 p1 HH.out.r2 (by omega)
    have HNX := Lib.hid hnx; clear hnx
    simp only [nx, List.headD_cons] at p0 ⊢
    go_enter Tryz.func17, Tryz.ntmps17
    go_wp2_with (first | (go_at_call 78; refine HKN.out.mono ?_; rintro e w' ⟨rfl, rfl⟩) | (go_at_call 77; refine HNX.out.mono ?_; rintro e w' ⟨a', c', rfl, rfl, hbs, -⟩))
    go_ret2
    have hb := HH.out.blk.put 1 (.slice a' ys.length c')
    have hg := Grew.set w ⟨g, 1, none⟩ (.slice a' ys.length c')
    exact ⟨rfl, a', c', HH.out.turn hg hb HH.out.r1 hbs HH.out.t0 HH.out.t1 HH.out.in_ HH.out.l1 (by show ys.length ≤ 1000; omega), hg⟩

set_option maxHeartbeats 1000000 in
theorem factory_Close_no (g b : Nat) (a1 : Option Addr) (c1 : Nat) (xs : List Bool) (a2 : Option Addr) (c2 : Nat) (ys : List Bool) (t : Int) (S : List Int) (id : Int) (w : World) (h : Fc w g b a1 c1 xs a2 c2 ys t S) (hid : In64 id) (hk : knownF t S id 10 ≠ 0) :
    Calls Tryz.prog 18 #[.pointer (some ⟨g, 0, none⟩), .int .u64 id] w fun e w' => e = .returned (.int .i64 (knownF t S id 10)) ∧ w = w' := by
  have hkn := factory_known g b a1 c1 xs a2 c2 ys t S id 10 w h hid
  generalize knownF t S id 10 = r at *
  have hr : (r == 0) = false := by simpa using hk
  have HKN := Lib.hid hkn; clear hkn h hk
  go_enter Tryz.func18, Tryz.ntmps18
  go_wp2_with (go_at_call 78; refine HKN.out.mono ?_; rintro e w' ⟨rfl, rfl⟩)
  go_ret
  exact ⟨rfl, rfl⟩
theorem known_zero {t : Int} {S : List Int} {id cl : Int} (hcl : cl ≠ 0) (hk : knownF t S id cl = 0) : 1 ≤ id ∧ id ≤ t ∧ id ∉ S := by
  unfold knownF at hk
  split at hk
  · omega
  · split at hk
    · exact absurd hk hcl
    · exact ⟨by omega, by omega, by assumption⟩
set_option maxHeartbeats 1000000 in
theorem factory_Close_yes (g b : Nat) (a1 : Option Addr) (c1 : Nat) (xs : List Bool) (a2 : Option Addr) (c2 : Nat) (ys : List Bool) (t : Int) (S : List Int) (id : Int) (w : World) (h : Fc w g b a1 c1 xs a2 c2 ys t S) (hid : In64 id) (hk : knownF t S id 10 = 0) (hS : S.length ≤ 100000) :
    Calls Tryz.prog 18 #[.pointer (some ⟨g, 0, none⟩), .int .u64 id] w fun e w' => e = .returned (.int .i64 0) ∧ Fc w' g b a1 c1 xs a2 c2 ys t (S ++ [id]) ∧ w.grownBy w' (some b) := by
  have hkn := factory_known g b a1 c1 xs a2 c2 ys t S id 10 w h hid
  have hz := known_zero (by decide) hk
  rw [hk] at hkn
  have p3 := h.blk.cell 3
  simp only [List.getElem?_toArray, List.getElem?_cons_zero, List.getElem?_cons_succ] at p3
  have hkey : keyOf Tryz.prog 28 (.int .u64 id) = some (K64 id) := keyOf_int_mk Tryz.underlying28 hid.wf
  obtain ⟨DS, hownS, hTS⟩ := h.st
  have hSl : S.length < maxLen := by unfold maxLen; omega
  have HTS := Lib.hid hTS; clear hTS
  have HZ := Lib.hid hz; clear hz
  have HH := Lib.hid h; clear h hk
  have HKN := Lib.hid hkn; clear hkn
  go_enter Tryz.func18, Tryz.ntmps18
  go_wp2_with (first
    | (go_at_call 78; refine HKN.out.mono ?_; rintro e w' ⟨rfl, rfl⟩)
    | (at_mapUpdate; refine wpList_mapUpdate_in _ rfl _ _ _ 27 rfl 28 4 lawU Tryz.underlying27 _ b _ DS rfl hownS hSl _ _ _ rfl rfl hkey _ [] (plainElem_bool Tryz.underlying4 true) ?_; intro w4 hown4 hturn4))
  go_ret
  have hg4 := hturn4.grown
  have q4 := St.put HTS.out HZ.out.2.2 hown4
  have hnb : some g ≠ some b := fun e => HH.out.ne (Option.some.inj e)
  refine ⟨rfl, ⟨(hg4.block g HH.out.blk.lt hnb).trans HH.out.blk, Rd.keptM (by decide) HH.out.r1 (fun off => HH.out.st.no_cell off) hg4, Rd.keptM (by decide) HH.out.r2 (fun off => HH.out.st.no_cell off) hg4, q4, HH.out.t0, HH.out.t1, fun k hk => ?_, HH.out.l1, HH.out.l2⟩, hg4⟩
  rcases List.mem_append.1 hk with hk | hk
  · exact HH.out.in_ k hk
  · rw [List.mem_singleton.1 hk]; exact ⟨HZ.out.1, HZ.out.2.1⟩

set_option maxHeartbeats 400000 in
theorem factory_IsOpen (g b : Nat) (a1 : Option Addr) (c1 : Nat) (xs : List Bool) (a2 : Option Addr) (c2 : Nat) (ys : List Bool) (t : Int) (S : List Int) (id : Int) (w : World) (h : Fc w g b a1 c1 xs a2 c2 ys t S) (hid : In64 id) :
    Calls Tryz.prog 19 #[.pointer (some ⟨g, 0, none⟩), .int .u64 id] w fun e w' => e = .returned (.bool (knownF t S id 10 == 0)) ∧ w = w' := by
  have hkn := factory_known g b a1 c1 xs a2 c2 ys t S id 10 w h hid
  generalize knownF t S id 10 = r at *
  have HKN := Lib.hid hkn; clear hkn h
  go_enter Tryz.func19, Tryz.ntmps19
  go_wp2_with (go_at_call 78; refine HKN.out.mono ?_; rintro e w' ⟨rfl, rfl⟩)
  go_ret
  exact ⟨rfl, rfl⟩
set_option maxHeartbeats 400000 in
theorem factory_Opened (g b : Nat) (a1 : Option Addr) (c1 : Nat) (xs : List Bool) (a2 : Option Addr) (c2 : Nat) (ys : List Bool) (t : Int) (S : List Int) (w : World) (h : Fc w g b a1 c1 xs a2 c2 ys t S) :
    Calls Tryz.prog 20 #[.pointer (some ⟨g, 0, none⟩)] w fun e w' => e = .returned (.int .u64 t) ∧ w = w' := by
  have p2 := h.blk.cell 2
  simp only [List.getElem?_toArray, List.getElem?_cons_zero, List.getElem?_cons_succ] at p2
  clear h
  go_enter Tryz.func20, Tryz.ntmps20
  go_wp2
  go_ret
  exact ⟨rfl, rfl⟩
theorem St.len {w : World} {b : Nat} {S : List Int} (h : St w b S) : ∃ D : DataW Unit, w.ownsMap Tryz.prog 28 (plainElem Tryz.prog 4) b S.length D ∧ Maps.size D = S.length := by
  obtain ⟨D, h1, h2⟩ := h
  exact ⟨D, h1, h2.size_⟩
set_option maxHeartbeats 400000 in
theorem factory_Closed (g b : Nat) (a1 : Option Addr) (c1 : Nat) (xs : List Bool) (a2 : Option Addr) (c2 : Nat) (ys : List Bool) (t : Int) (S : List Int) (w : World) (h : Fc w g b a1 c1 xs a2 c2 ys t S) (hS : S.length ≤ 100000) :
    Calls Tryz.prog 21 #[.pointer (some ⟨g, 0, none⟩)] w fun e w' => e = .returned (.int .u64 S.length) ∧ w = w' := by
  have p3 := h.blk.cell 3
  simp only [List.getElem?_toArray, List.getElem?_cons_zero, List.getElem?_cons_succ] at p3
  obtain ⟨D, hown, hsz⟩ := h.st.len
  clear h
  have hlen := fun ty => hown.len Tryz.underlying27 ty
  rw [hsz] at hlen
  have HO := Lib.hid hown; clear hown hsz
  go_enter Tryz.func21, Tryz.ntmps21
  go_wp2
  go_ret
  exact ⟨rfl, rfl⟩
end Go.Proofs.YtonfaojmphidpaaGreatDoor
