/- The wheel's keys, in order. -/
import Derived.Test.YtonfaojmphidpaaGreatDoorWheelCollect
import Derived.Test.YtonfaojmphidpaaGreatDoorWheelSort
import Derived.Test.YtonfaojmphidpaaGreatDoorTabSort
import Derived.Shelf.SlSortCmp.NoneTotal
namespace Go.Proofs.YtonfaojmphidpaaGreatDoor
open Go.RowKit Go.Maps Go.Sort Go.Shelf
set_option linter.unusedVariables false
set_option linter.unusedSimpArgs false

def withV (L : List (Int × Int)) (ks : List Int) : List (Int × Int) := ks.map fun k => (k, valOf L k)
theorem keysOf_withV (L : List (Int × Int)) (ks : List Int) : keysOf (withV L ks) = ks := by
  unfold keysOf withV; rw [List.map_map]; exact (List.map_congr_left fun _ _ => rfl).trans (List.map_id _)
theorem withV_keys {L : List (Int × Int)} (h : (keysOf L).Nodup) : withV L (keysOf L) = L := by
  unfold withV keysOf; rw [List.map_map]
  refine (List.map_congr_left fun p hp => ?_).trans (List.map_id _)
  show (p.1, valOf L p.1) = p
  rw [valOf_mem h (v := p.2) hp]
def valsU (d : Array U) : List Int := d.toList.map Subtype.val
theorem sorted_keys {L T : List (Int × Int)} (hn : (keysOf L).Nodup) (hT : L.Perm T) (hs : Srt T) (d : Array U) (hp : (valsU d).Perm (keysOf L)) (hS : SortedIn (ltOf (cfU L)) 0 d.size d) : valsU d = keysOf T := by
  have h1 : (withV L (valsU d)).Perm T := (hp.map _).trans (by have := withV_keys hn; unfold withV at this; rw [this]; exact hT)
  have hnd : (valsU d).Nodup := hp.nodup_iff.2 hn
  have hlen : (valsU d).length = d.size := by simp [valsU]
  have hget : ∀ i (h : i < d.size), (valsU d)[i]'(by rw [hlen]; exact h) = (d[i]!).1 := fun i h => by
    rw [getElem!_pos d i h]; simp [valsU]
  have h2 : Srt (withV L (valsU d)) := by
    unfold Srt withV
    rw [List.pairwise_map, List.pairwise_iff_getElem]
    intro i j hi hj hij
    rw [hlen] at hi hj
    have hl := hS i j (by omega) hij hj
    rw [ltU] at hl
    rw [hget i hi, hget j hj]
    have hne : (d[i]!).1 ≠ (d[j]!).1 := by
      rw [← hget i hi, ← hget j hj]
      exact (List.pairwise_iff_getElem.1 hnd) i j (by rw [hlen]; exact hi) (by rw [hlen]; exact hj) hij
    simp only [decide_eq_false_iff_not] at hl
    unfold ltT; dsimp only
    omega
  rw [← Srt.uniq h1 h2 hs, keysOf_withV]
theorem holds_U {w : World} {g : Nat} {cur : Array Value} {e : TypeId} {d : Array U} (hb : w.heap[g]? = some (.cells cur e (0, 0))) (ht : cur.toList.take d.size = d.toList.map encU) : Holds encU w g 0 d := by
  intro j hj
  refine ⟨?_, by simp [World.frozen?, hb]⟩
  have h1 : (cur.toList.take d.size)[j]? = (d.toList.map encU)[j]? := by rw [ht]
  rw [List.getElem?_take_of_lt hj] at h1
  simp only [World.cell?, hb, Nat.zero_add]
  simp only [Option.isSome_none, Bool.false_eq_true, if_false]
  rw [← Array.getElem?_toList, h1]
  simp [hj]
theorem heap_U {w : World} {g n : Nat} {os : Array Obj} {cur : Array Value} {e : TypeId} {fr : Nat × Nat} (d : Array U) (hb : w.heap[g]? = some (.cells cur e fr)) :
    (sortWorld encU w g 0 n d os).heap[g]? = some (.cells (putCells encU 0 d cur) e fr) := by
  have hg : g < w.heap.size := (Array.getElem?_eq_some_iff.1 hb).1
  unfold sortWorld
  rw [heap_grow_old _ _ (by simpa using hg)]
  simp [putRow, mapBlock, Sort.ahead, Array.getElem?_modify, hb, onCells]
theorem take_U (cur : Array Value) (d : Array U) (h : d.size ≤ cur.size) : (putCells encU 0 d cur).toList.take d.size = d.toList.map encU := by
  apply List.ext_getElem?
  intro j
  by_cases hj : j < d.size
  · rw [List.getElem?_take_of_lt hj, Array.getElem?_toList]
    simp [putCells, hj, show j < cur.size by omega]
  · rw [List.getElem?_take_eq_none (by omega), List.getElem?_eq_none (by simp; omega)]
theorem own_U {w : World} {base g cap n : Nat} {e : TypeId} {os : Array Obj} {cur : Array Value} {d : Array U} (hbase : base ≤ g) (hb : w.heap[g]? = some (.cells cur e (0, 0)))
    (h1 : d.size ≤ cap) (h2 : cap ≤ maxLen) (h3 : cur.size = cap * 1) :
    (sortWorld encU w g 0 n d os).ownsRow base e 1 (.slice (some ⟨g, 0, none⟩) d.size cap) d.size (d.toList.map encU) :=
  ⟨by simp, .inr ⟨g, cap, _, rfl, hbase, heap_U _ hb, h1, h2, by simp [putCells, h3], by rw [Nat.mul_one]; exact take_U cur d (by omega)⟩⟩
theorem encU_vals (d : Array U) : d.toList.map encU = nums .u64 (valsU d) := by
  unfold nums valsU; rw [List.map_map]; rfl
theorem U_of (ss : List Int) (h : ∀ x ∈ ss, In64 x) : ∃ d : Array U, valsU d = ss := by
  refine ⟨(ss.pmap (fun x hx => (⟨x, hx⟩ : U)) h).toArray, ?_⟩
  simp [valsU, List.map_pmap]

theorem wheel_Collect (mx b nn : Nat) (D0 : DataW Unit) (L : List (Int × Int)) (hT : Tab D0 L) {R : Value → Option (DataW Unit × List MemPlace)} (w : World) (hmx : mx < w.heap.size) (hl : L.length ≤ 100000)
    (hm : w.cell? ⟨mx, 0, none⟩ = some (.map (some b))) (hown : w.ownsMap Tryz.prog 28 R b nn D0) :
    Calls Tryz.prog 185 #[.func (.func 187) #[] #[.pointer (some ⟨mx, 0, none⟩)]] w fun e w' => ∃ (v : Value) (ss : List Int), e = .returned v ∧ ss.Perm (keysOf L) ∧ w'.ownsRow w.heap.size 28 1 v ss.length (ss.map encK) ∧ (v = .slice none 0 0 ↔ ss = []) ∧ RowKit.Below w.heap.size w w' :=
  callsIn_wide.1 (collect_in Fence.wide 9 trivial trivial rfl (by omega) 187 #[.pointer (some ⟨mx, 0, none⟩)] trivial (enters_of Tryz.func187 (by kernel_rfl) rfl) (fun ss => ss.Perm (keysOf L)) L.length (by unfold maxLen; omega) (by omega) w
    (keys_gives Fence.wide _ trivial rfl (by omega) mx b nn D0 L hT w hmx hm hown))

set_option maxRecDepth 100000 in
set_option maxHeartbeats 1000000 in
theorem wheel_SortedFunc (bx mx g b : Nat) (L T : List (Int × Int)) (w : World) (h : Wh w g b L) (hbx : Blk w bx 230 #[.pointer (some ⟨g, 0, none⟩)]) (hmx : Blk w mx 234 #[.map (some b)]) (hT : L.Perm T) (hs : Srt T) (hl : L.length ≤ 100000) :
    Calls Tryz.prog 179 #[.func (.func 187) #[] #[.pointer (some ⟨mx, 0, none⟩)], .func (.func 181) #[] #[.pointer (some ⟨bx, 0, none⟩)]] w fun e w' =>
      ∃ a c, e = .returned (.slice a T.length c) ∧ w'.ownsRow w.heap.size 28 1 (.slice a T.length c) T.length (nums .u64 (keysOf T)) ∧ RowKit.Below w.heap.size w w' := by
  obtain ⟨D, hown, hTab⟩ := h.map_
  have hc := wheel_Collect mx b L.length D L hTab w hmx.lt hl (hmx.cell 0) hown
  have hn := hTab.nodup
  have hlen := hT.length_eq
  go_enter Tryz.func179, Tryz.ntmps179
  go_wp2_with fail
  refine hc.mono ?_
  rintro e w1 ⟨v, ss, rfl, hp, hrow, hnil, hb⟩
  have hsl : ss.length = L.length := by rw [hp.length_eq]; simp [keysOf]
  rcases hrow.2 with ⟨rfl, hz⟩ | ⟨gb, cap, cur, rfl, hbase, hgb, r1, r2, r3, r4⟩
  · have hT0 : T = [] := List.eq_nil_of_length_eq_zero (by omega)
    subst hT0
    have cS := AnyF.slices_SortFunc_none (P := Tryz.prog) (ρ := Tryz.sortF_ren) { Tryz.sortF with } none 0 (.func (.func 181) #[] #[.pointer (some ⟨bx, 0, none⟩)]) w1
    change Calls Tryz.prog 186 _ _ _ at cS
    go_wp2_with fail
    refine cS.mono ?_
    rintro e w2 ⟨rfl, rfl⟩
    go_wp2_with fail
    go_ret
    exact ⟨none, 0, rfl, World.ownsRow_nil _ _ _ _, hb⟩
  · obtain ⟨d, rfl⟩ := U_of ss fun x hx => by
      obtain ⟨v, hv⟩ := mem_keysOf.1 (hp.mem_iff.1 hx)
      exact (h.wf_ _ hv).1
    have hds : (valsU d).length = d.size := by simp [valsU]
    rw [Nat.mul_one] at r4
    rw [hds] at r1 r4 hsl
    have hgl : gb < w1.heap.size := (Array.getElem?_eq_some_iff.1 hgb).1
    have r4' : cur.toList.take d.size = d.toList.map encU := r4.trans (by rw [encU_vals]; rfl)
    have cS := wheel_SortFunc bx g b L gb cap d w1 (h.of_below hb) (hbx.of_below hb) (by have := h.blk.lt; omega) (by have := h.lt; omega) (by have := hbx.lt; omega) (holds_U hgb r4') hgl (by omega)
    rw [hds]
    have HDS := Lib.hid hds; clear hds
    have HSL := Lib.hid hsl; clear hsl
    have HLEN := Lib.hid hlen; clear hlen
    have H3 := Lib.hid r3; clear r3
    have H4 := Lib.hid r4; clear r4
    have H4' := Lib.hid r4'; clear r4'
    have HGB := Lib.hid hgb; clear hgb
    clear hrow hnil
    go_wp2_with fail
    refine cS.mono ?_
    rintro e w2 ⟨rfl, d', n, os, hpi, hsi, rfl⟩
    have hd' : d'.size = d.size := hpi.1
    have e1 : d'.extract 0 d.size = d' := by rw [← hd']; exact Array.extract_size
    have hpp : d'.toList.Perm d.toList := by have := hpi.2.2; rwa [e1, Array.extract_size] at this
    have hk : valsU d' = keysOf T := sorted_keys hn hT hs d' ((hpp.map _).trans hp) (by rw [hd']; exact hsi)
    have hTl : T.length = d'.size := by have := HLEN.out; have := HSL.out; omega
    have ho := own_U (n := n) (os := os) hbase HGB.out (by rw [hd']; exact r1) r2 H3.out
    have HD' := Lib.hid hd'; clear hd'
    have HK := Lib.hid hk; clear hk
    have HTL := Lib.hid hTl; clear hTl
    have HHO := Lib.hid ho; clear ho e1
    clear hpi hsi
    go_wp2_with fail
    go_ret
    rw [HTL.out, ← HK.out, ← encU_vals]
    exact ⟨_, cap, by rw [HD'.out]; rfl, HHO.out, hb.grown (sortWorld_grown _ _ _ _ _) hb.size (fun j hj => by cases hj; exact hbase)⟩

set_option maxRecDepth 100000 in
set_option maxHeartbeats 1000000 in
theorem wheel_keys (g b : Nat) (L T : List (Int × Int)) (w : World) (h : Wh w g b L) (hT : L.Perm T) (hs : Srt T) (hl : L.length ≤ 100000) :
    Calls Tryz.prog 173 #[.pointer (some ⟨g, 0, none⟩)] w fun e w' =>
      ∃ a c, e = .returned (.slice a T.length c) ∧ w'.ownsRow w.heap.size 28 1 (.slice a T.length c) T.length (nums .u64 (keysOf T)) ∧ RowKit.Below w.heap.size w w' := by
  have hck := fun w1 => callsIn_wide.1 (keys_walk Fence.wide 9 trivial rfl (some b) w1)
  have hb0 : RowKit.Below w.heap.size w (w.alloc (.cells #[.pointer (some ⟨g, 0, none⟩)] 230)) := (RowKit.Below.refl _ _).alloc (Nat.le_refl _) _
  have p0 := (h.of_below hb0).cell
  have hb1 : RowKit.Below w.heap.size w ((w.alloc (.cells #[.pointer (some ⟨g, 0, none⟩)] 230)).alloc (.cells #[.map (some b)] 234)) := hb0.alloc hb0.size _
  have hbx := (Blk.new w 230 #[.pointer (some ⟨g, 0, none⟩)]).alloc (.cells #[.map (some b)] 234)
  have hmx := Blk.new (w.alloc (.cells #[.pointer (some ⟨g, 0, none⟩)] 230)) 234 #[.map (some b)]
  have hcon := wheel_SortedFunc _ _ g b L T _ (h.of_below hb1) hbx hmx hT hs hl
  rw [size_alloc] at hcon
  go_enter Tryz.func173, Tryz.ntmps173
  go_wp2_with (first
    | (go_at_call 180; refine (hck _).mono ?_; rintro e w1 ⟨rfl, rfl⟩)
    | (go_at_call 179; refine hcon.mono ?_; clear hcon; rintro e w1 ⟨a, c, rfl, ho, hb⟩)
    | go_in)
  go_ret
  exact ⟨a, c, rfl, own_mono ho (by simp; omega), below_step hb1 hb1.size hb⟩
end Go.Proofs.YtonfaojmphidpaaGreatDoor
