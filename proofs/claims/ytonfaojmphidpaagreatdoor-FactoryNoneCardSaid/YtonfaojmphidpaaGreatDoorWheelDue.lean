/- The wheel's next tick, and what is due. -/
import Derived.Test.YtonfaojmphidpaaGreatDoorWheelKeys
namespace Go.Proofs.YtonfaojmphidpaaGreatDoor
open Go.RowKit Go.Maps
set_option linter.unusedVariables false
set_option linter.unusedSimpArgs false

/-- A wheel whose timers are T, in order. -/
structure Ws (w : World) (g b : Nat) (T : List (Int × Int)) : Prop where
  wh : Wh w g b T
  srt : Srt T
theorem Ws.nodup {w : World} {g b : Nat} {T : List (Int × Int)} (h : Ws w g b T) : (keysOf T).Nodup := by
  obtain ⟨D, _, hT⟩ := h.wh.map_; exact hT.nodup
theorem Ws.of_below {w w' : World} {g b : Nat} {T : List (Int × Int)} (h : Ws w g b T) (hb : RowKit.Below w.heap.size w w') : Ws w' g b T := ⟨h.wh.of_below hb, h.srt⟩
theorem Wh.kept {w w' : World} {g b : Nat} {L : List (Int × Int)} {r : Option Nat} (h : Wh w g b L) (hg : w.grownBy w' r) (h1 : some g ≠ r) (h2 : some b ≠ r) : Wh w' g b L := by
  obtain ⟨D, hown, hT⟩ := h.map_
  exact ⟨(hg.block g h.blk.lt h1).trans h.blk, ⟨D, hown.kept hg h2, hT⟩, h.wf_⟩
theorem Sl.cells_of_own {w : World} {base n c : Nat} {e : TypeId} {A : Option Addr} {k : IntKind} {xs : List Int} (h : w.ownsRow base e 1 (.slice A xs.length c) xs.length (nums k xs)) : Sl k w A c xs := own_rd h

set_option maxRecDepth 100000 in
set_option maxHeartbeats 2000000 in
theorem wheel_Due (g b : Nat) (T : List (Int × Int)) (now : Int) (w : World) (h : Ws w g b T) (hl : T.length ≤ 90000) :
    Calls Tryz.prog 169 #[.pointer (some ⟨g, 0, none⟩), .int .u64 now] w fun e w' => ∃ a c, e = .returned (.slice a (dueT T now).length c) ∧
      w'.ownsRow w.heap.size 28 1 (.slice a (dueT T now).length c) (dueT T now).length (nums .u64 (keysOf (dueT T now))) ∧ Ws w' g b (restT T now) ∧ w.grownBy w' (some b) := by
  have hk := wheel_keys g b T T w h.wh (.refl _) h.srt (by omega)
  have hnd := h.nodup
  have hgl := h.wh.blk.lt
  have hbl := h.wh.lt
  have HH := Lib.hid h; clear h
  have HND := Lib.hid hnd; clear hnd
  go_enter Tryz.func169, Tryz.ntmps169
  go_wp2_with (go_at_call 173; refine hk.mono ?_; clear hk; rintro e w1 ⟨a, c, rfl, ho, hb⟩; have HO := Lib.hid ho; clear ho; have hz1 := hb.size)
  go_loopw [5, 11] (fun v i wr => ∃ (k : Nat) (A1 : Option Addr) (c1 : Nat), k ≤ T.length ∧ i = .int .i64 k ∧ v = .slice A1 k c1 ∧ (∀ p ∈ T.take k, p.2 ≤ now) ∧ wr.ownsRow w1.heap.size 28 1 (.slice A1 k c1) k (nums .u64 (keysOf (T.take k))) ∧ Wh wr g b (T.drop k) ∧ w1.grownBy wr (some b)) (fun _ i _ => T.length - (intOf i).toNat)
  case atStart => exact ⟨0, none, 0, by omega, rfl, rfl, (fun p hp => by simp at hp), World.ownsRow_nil _ _ _ _, HH.out.wh.of_below hb, World.grownBy.refl _ _⟩
  case round =>
    obtain ⟨k, A1, c1, hk, rfl, rfl, hall, hown, hwh, hg⟩ := hrel
    have HA := Lib.hid hall; clear hall
    have HW := Lib.hid hown; clear hown
    have fin : (T.length ≤ k ∨ ∃ p, T[k]? = some p ∧ now < p.2) → ∃ a c, Ending.returned (.slice A1 k c1) = .returned (.slice a (dueT T now).length c) ∧ wr.ownsRow w.heap.size 28 1 (.slice a (dueT T now).length c) (dueT T now).length (nums .u64 (keysOf (dueT T now))) ∧ Ws wr g b (restT T now) ∧ w.grownBy wr (some b) := fun h2 => by
      obtain ⟨e1, e2⟩ := dueT_of HA.out h2
      have e3 : (T.take k).length = k := by simp; omega
      rw [e1, e2, e3]
      exact ⟨A1, c1, rfl, own_mono HW.out hz1, ⟨hwh, HH.out.srt.sub (List.drop_sublist _ _)⟩, World.grownBy.trans ⟨hb.os, hb.tape, hb.output, hb.size, fun i hi _ => hb.block i hi⟩ hg⟩
    have FIN := Lib.hid fin; clear fin
    by_cases hlt : k < T.length
    · obtain ⟨blk, off, rfl, hbk, hcell⟩ := (own_rd HO.out).2.2.2 (by omega)
      have hqb := (own_addr HO.out).1
      have hge : T[k]? = some (T.getD k (0, 0)) := by rw [List.getD_eq_getElem?_getD, List.getElem?_eq_getElem hlt]; rfl
      have c0 := hcell k (.int .u64 (T.getD k (0, 0)).1) (by unfold nums keysOf; rw [List.getElem?_map, List.getElem?_map, hge]; rfl)
      clear hcell
      have c1' : wr.cell? ⟨blk, off + k, none⟩ = some (.int .u64 (T.getD k (0, 0)).1) := (World.cell?_of_block (w := w1) (hg.block blk hbk (fun e => by (have := Option.some.inj e; simp at hqb; omega)))).trans c0
      clear c0
      obtain ⟨p, hp⟩ : ∃ p, T.getD k (0, 0) = p := ⟨_, rfl⟩
      rw [hp] at c1' hge
      have hdr : T.drop k = p :: T.drop (k + 1) := by rw [List.drop_eq_getElem_cons hlt]; congr 1; simpa [List.getElem?_eq_getElem hlt] using hge
      rw [hdr] at hwh
      have hin := (hwh.wf_ p (List.mem_cons_self)).1
      have c2 := hwh.cell
      have c3 := hwh.look hin
      rw [show valOf (p :: T.drop (k + 1)) p.1 = p.2 from valOf_mem (by obtain ⟨D, _, hT⟩ := hwh.map_; exact hT.nodup) (List.mem_cons_self)] at c3
      have HGE := Lib.hid hge; clear hge
      have HP := Lib.hid hp; clear hp
      have HDR := Lib.hid hdr; clear hdr
      have HWH := Lib.hid hwh; clear hwh
      by_cases hx : now < p.2
      · have hx' : ¬ p.2 ≤ now := by omega
        go_wp2
        go_ret
        exact FIN.out (.inr ⟨p, HGE.out, hx⟩)
      · have hx' : p.2 ≤ now := by omega
        have hkey : keyOf Tryz.prog 28 (.int .u64 p.1) = some (K64 p.1) := keyOf_int_mk Tryz.underlying28 hin.wf
        have hs1 : k + 1 ≤ 9223372036854775807 := by omega
        have hz2 := hg.size
        have bnd : (k + 1) * 8 ≤ 140737488355328 := by omega
        have ne1 : ∀ x, x < w1.heap.size → some x ≠ (Value.slice A1 k c1).ownBlock := fun x hx e => by have := own_base HW.out x e.symm; omega
        have hgl1 : g < w1.heap.size := by omega
        have hbl1 : b < w1.heap.size := by omega
        have NE := Lib.hid ne1; clear ne1
        go_wp2_with (first
          | (at_builtin; refine app_one wr rfl (.tmp 23) (.tmp 25) 39 rfl w1.heap.size 28 (.int .u64 0) 1 8 Tryz.underlying39 Tryz.infoU rfl (by decide) (.slice A1 k c1) k _ rfl HW.out [.int .u64 p.1] rfl rfl (by simp [Value.oneCell']) hs1 bnd hz2 ?_; intro A2 cc2 w2 h5 h6 h7
             have hw2 := HWH.out.kept h6 (NE.out g hgl1) (NE.out b hbl1)
             obtain ⟨D, hown2, hT2⟩ := hw2.map_
             have c4 := hw2.cell
             have H5 := Lib.hid h5; clear h5
             have H6 := Lib.hid h6; clear h6 h7)
          | (at_delete; refine wpList_delete_own _ rfl _ _ 234 28 rfl 28 lawU Tryz.underlying234 _ b _ D rfl hown2 _ _ rfl hkey ?_; intro w3 hown3 hturn3)
          | go_in)
        have hd := hT2.del p.1
        have hnd2 : (keysOf (p :: T.drop (k + 1))).Nodup := hT2.nodup
        rw [strike_head hnd2] at hd
        have hg3 := hturn3.grown
        have e1 : T.take (k + 1) = T.take k ++ [p] := by rw [take_snoc' T (0, 0) k hlt, HP.out]
        have e2 : nums .u64 (keysOf (T.take (k + 1))) = nums .u64 (keysOf (T.take k)) ++ [.int .u64 p.1] := by rw [e1]; simp [nums, keysOf]
        have hneb : some b ≠ (Value.slice A2 (k + 1) cc2).ownBlock := fun e => by have := own_base H5.out b e.symm; omega
        go_roundw
        case rel =>
          refine ⟨k + 1, A2, cc2, by omega, by go_num, rfl, fun q hq => ?_, ?_, ⟨(hg3.block g hw2.blk.lt (fun e => hw2.ne (Option.some.inj e))).trans hw2.blk, ⟨_, hd.size_ ▸ own_tight hown3, hd⟩, fun q hq => hw2.wf_ q (List.mem_cons_of_mem _ hq)⟩, ?_⟩
          · rw [e1] at hq
            rcases List.mem_append.1 hq with hq | hq
            · exact HA.out q hq
            · rw [List.mem_singleton.1 hq]; exact hx'
          · rw [e2]; exact H5.out.kept hg3 (.inr fun e => hneb e.symm)
          · exact (hg.andThen H6.out (fun j hj => .inl (own_base HW.out j hj))).trans hg3
        case measure => simp [intOf]; omega
    · go_wp2
      go_ret
      exact FIN.out (.inl (by omega))
end Go.Proofs.YtonfaojmphidpaaGreatDoor
