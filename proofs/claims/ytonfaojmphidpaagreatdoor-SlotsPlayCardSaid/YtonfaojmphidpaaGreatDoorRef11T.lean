/- Chapter 11: the document's Take, of one that is there. -/
import Derived.Test.YtonfaojmphidpaaGreatDoorRef11
namespace Go.Proofs.YtonfaojmphidpaaGreatDoor
open Go.RowKit
set_option linter.unusedVariables false
set_option linter.unusedSimpArgs false

/-- append(v, xs...) as the one step of a drawn region that touches the world. -/
theorem mix_app_own {P : Program} {C : World → Prop} {o : Oper} {a : Act} {K : Value → World → Prop} (w : World) (s x : Operand) (t : TypeId) (ho : o.op = .call { callee := .builtin .append, args := #[s, x], argTypes := #[t, t] })
    (base : Nat) (e : TypeId) (z : Value) (size bytes : Nat) (ht : P.underlying t = some (.slice e))
    (hinfo : (P.info? e).map (fun i => (i.zero, i.size, i.bytes)) = some (some z, size, bytes)) (hz : z.cells.size = size) (hs0 : 0 < size)
    (v : Value) (n : Nat) (olds : List Value) (hs : a.eval s = v) (HO : w.ownsRow base e size v n olds)
    (A : Option Addr) (m c : Nat) (news : List Value) (hx : a.eval x = .slice A m c) (HR : Rd size w A m c news) (h1 : ∀ u ∈ news, u.oneCell' = true)
    (h63 : n + m ≤ 9223372036854775807) (hl : (n + m) * bytes ≤ 140737488355328) (hbase : base ≤ w.heap.size)
    (h : ∀ A1 c1 w1, w1.ownsRow base e size (.slice A1 (n + m) c1) (n + m) (olds ++ news) → w.grownBy w1 v.ownBlock → C w1 ∧ K (.slice A1 (n + m) c1) w1) :
    mixUpon P C K ((execOp a.eval o).run P w) := by
  obtain ⟨A1, c1, w1, hrun, h2, h3, h4⟩ := run_app_own (P := P) w base t o.type e z size bytes ht hinfo hz hs0 v n olds HO A m c news HR h1 h63 hl hbase
  unfold execOp
  simp only [ho, resolve, invoke, builtin, Sem.run_bind, Sem.run_pure, Result.andThen_ok, List.map_toArray, List.map_cons, List.map_nil, hs, hx, hrun]
  exact h A1 c1 w1 h2 h3

set_option maxHeartbeats 2000000 in
theorem ref11_Take_yes (a : Option Addr) (c : Nat) (L : List Sv) (th : Int) (k : Nat) (x : Sv) (w : World) (h : Rw Sv.cells 3 w a c L) (hl : L.length ≤ 1000) (hcm : c ≤ maxLen) (hx : fidx (fun x : Sv => x.th == th) L = k) (hkx : L[k]? = some x) :
    Calls Tryz.prog 37 #[.slice a L.length c, .int .i64 th] w fun e w' => ∃ a' c', e = .returned (.tuple #[.slice a' (L.eraseIdx k).length c', .int .u64 x.id, .bool true]) ∧ Rr w' w.heap.size a' c' (L.eraseIdx k) ∧ RowKit.Below w.heap.size w w' := by
  have hkl : k < L.length := (List.getElem?_eq_some_iff.1 hkx).1
  have hof := ref11_Of a c L th w h (by omega)
  rw [hx] at hof
  obtain ⟨b, off, rfl, hb, hc⟩ := h.at_ Sv.cells_length (by omega)
  have hid := hc k x hkx 2 _ rfl
  have hle := h.le
  have HOF := Lib.hid hof; clear hof hx hc
  have HID := Lib.hid hid; clear hid
  have HH := Lib.hid h; clear h
  have HKX := Lib.hid hkx; clear hkx
  have hwr : IntKind.i64.wrap ((k : Int) + 1) = (k : Int) + 1 := by rw [IntKind.wrap_i64]; omega
  have e1 : k ≤ c := by omega
  have e2 : k + 1 ≤ L.length := by omega
  have hcm' : (c : Int) ≤ 9223372036854775807 := by unfold maxLen at hcm; omega
  go_enter Tryz.func37, Tryz.ntmps37
  go_wp2_with fail
  refine HOF.out.mono ?_
  rintro e w1 ⟨rfl, hb1⟩
  have HB := Lib.hid hb1; clear hb1
  have hsz := HB.out.size
  have hR1 := HH.out.below HB.out
  have hRt : Rw Sv.cells 3 w1 (some ⟨b, off, none⟩) c (L.take k) := hR1.take Sv.cells_length (by omega) e1 (fun e => by cases e)
  have hlt : (L.take k).length = k := by simp; omega
  have HRT := Lib.hid (show Rd 3 w1 (some ⟨b, off, none⟩) k c (cellsOf Sv.cells (L.take k)) from by have := hRt.rd; rwa [hlt] at this)
  have HR1 := Lib.hid hR1; clear hR1 hRt hlt
  have HN1 := Lib.hid (World.ownsRow_nil w1 w1.heap.size 79 3)
  go_wp2_with (at_builtin; refine app_own _ rfl _ _ 65 rfl w1.heap.size 79 (.agg #[.int .i64 0, .int .u64 0, .int .u64 0]) 3 24 Tryz.underlying65 Tryz.infoRSlot rfl (by decide) (.slice none 0 0) 0 [] rfl HN1.out (some ⟨b, off, none⟩) k c _ rfl HRT.out (cellsOf_one Sv.cells_one _) (by omega) (by omega) (Nat.le_refl _) ?_; intro A2 c2 w2 h2 h3 h4; rw [Nat.zero_add, List.nil_append] at h2; have hs2 := h3.size; have H2 := Lib.hid h2; clear h2; have H3 := Lib.hid h3; clear h3 h4)
  have hR2 := HR1.out.below (show RowKit.Below w1.heap.size w1 w2 from ⟨H3.out.os, H3.out.tape, H3.out.output, H3.out.size, fun i hi => H3.out.block i hi (by simp [Value.ownBlock])⟩)
  have hRd : Rw Sv.cells 3 w2 (some ⟨b, off + (k + 1) * 3, none⟩) (c - (k + 1)) (L.drop (k + 1)) := hR2.drop Sv.cells_length e2
  have hdl : (L.drop (k + 1)).length = L.length - (k + 1) := by simp
  have hrd : Rd 3 w2.drew (if c = k + 1 then some ⟨b, off, none⟩ else some ⟨b, off + (k + 1) * 3, none⟩) (L.length - (k + 1)) (c - (k + 1)) (cellsOf Sv.cells (L.drop (k + 1))) := by
    split
    · have h0 : L.length - (k + 1) = 0 := by omega
      rw [h0] at hdl ⊢
      rw [List.eq_nil_of_length_eq_zero hdl]
      exact ⟨rfl, by omega, (fun e => by cases e), fun e => by omega⟩
    · have := hRd.rd; rw [hdl] at this; exact this
  obtain ⟨pp, hpp⟩ : ∃ pp, (if c = k + 1 then some (⟨b, off, none⟩ : Addr) else some ⟨b, off + (k + 1) * 3, none⟩) = pp := ⟨_, rfl⟩
  rw [hpp] at hrd
  have HRD := Lib.hid hrd; clear hrd
  have e3 : (k : Int) + 1 ≤ (L.length : Int) := by omega
  have e4 : (0 : Int) ≤ (k : Int) + 1 := by omega
  have HO2 := Lib.hid (show w2.drew.ownsRow w1.heap.size 79 3 (.slice A2 k c2) k (cellsOf Sv.cells (L.take k)) from H2.out)
  have hcid : w1.cell? ⟨b, off + (k * 3 + 2), none⟩ = some (.int .u64 x.id) := (HB.out.cell (p := ⟨b, off + (k * 3 + 2), none⟩) hb).trans HID.out
  rw [← Nat.add_assoc] at hcid
  have hb1 : b < w1.heap.size := by omega
  have HB12 := Lib.hid (show RowKit.Below w1.heap.size w1 w2 from ⟨H3.out.os, H3.out.tape, H3.out.output, H3.out.size, fun i hi => H3.out.block i hi (by simp [Value.ownBlock])⟩)
  clear hR2 hRd hdl
  have n1 : k + (L.length - (k + 1)) ≤ 9223372036854775807 := by omega
  have n2 : (k + (L.length - (k + 1))) * 24 ≤ 140737488355328 := by omega
  have hs2' : w1.heap.size ≤ w2.drew.heap.size := hs2
  go_wp2_with fail
  have hxc : ∀ w', RowKit.Below w1.heap.size w1 w' → w'.cell? ⟨b, off + k * 3 + 2, none⟩ = some (.int .u64 x.id) := fun w' hw' => (hw'.cell (p := ⟨b, off + k * 3 + 2, none⟩) hb1).trans hcid
  have HXC := Lib.hid hxc; clear hxc hcid
  refine wp_region_mix (fun w' => RowKit.Below w1.heap.size w1 w') [(0, true), (1, true), (2, true), (3, true), (4, true), (6, true), (7, true), (8, true), (9, true), (10, true), (5, false), (11, true), (12, true), (13, true)] (by kernel_rfl) (by kernel_rfl) HB12.out.drew ?_
  refine ord_still rfl rfl (fun K hK => ?_); apply Exists.intro; refine ⟨fun w' hw' => ?_, ?_⟩; (have HX := HXC.out w' hw'; go_simp; first | done | exact ⟨rfl, rfl⟩ | exact rfl); (go_simp; refine hK _ ?_; clear hK K)
  refine ord_still rfl rfl (fun K hK => ?_); apply Exists.intro; refine ⟨fun w' hw' => ?_, ?_⟩; (have HX := HXC.out w' hw'; go_simp; first | done | exact ⟨rfl, rfl⟩ | exact rfl); (go_simp; refine hK _ ?_; clear hK K)
  refine ord_still rfl rfl (fun K hK => ?_); apply Exists.intro; refine ⟨fun w' hw' => ?_, ?_⟩; (have HX := HXC.out w' hw'; go_simp; first | done | exact ⟨rfl, rfl⟩ | exact rfl); (go_simp; refine hK _ ?_; clear hK K)
  refine ord_still rfl rfl (fun K hK => ?_); apply Exists.intro; refine ⟨fun w' hw' => ?_, ?_⟩; (have HX := HXC.out w' hw'; go_simp; first | done | exact ⟨rfl, rfl⟩ | exact rfl); (go_simp; refine hK _ ?_; clear hK K)
  refine ord_still rfl rfl (fun K hK => ?_); apply Exists.intro; refine ⟨fun w' hw' => ?_, ?_⟩; (have HX := HXC.out w' hw'; go_simp; first | done | exact ⟨rfl, rfl⟩ | exact rfl); (go_simp; refine hK _ ?_; clear hK K)
  refine ord_still rfl rfl (fun K hK => ?_); apply Exists.intro; refine ⟨fun w' hw' => ?_, ?_⟩; (have HX := HXC.out w' hw'; go_simp; first | done | exact ⟨rfl, rfl⟩ | exact rfl); (go_simp; refine hK _ ?_; clear hK K)
  refine ord_still rfl rfl (fun K hK => ?_); apply Exists.intro; refine ⟨fun w' hw' => ?_, ?_⟩; (have HX := HXC.out w' hw'; go_simp; first | done | exact ⟨rfl, rfl⟩ | exact rfl); (go_simp; refine hK _ ?_; clear hK K)
  refine ord_still rfl rfl (fun K hK => ?_); apply Exists.intro; refine ⟨fun w' hw' => ?_, ?_⟩; (have HX := HXC.out w' hw'; go_simp; first | done | exact ⟨rfl, rfl⟩ | exact rfl); (go_simp; refine hK _ ?_; clear hK K)
  refine ord_still rfl rfl (fun K hK => ?_); apply Exists.intro; refine ⟨fun w' hw' => ?_, ?_⟩; (have HX := HXC.out w' hw'; go_simp; first | done | exact ⟨rfl, rfl⟩ | exact rfl); (go_simp; refine hK _ ?_; clear hK K)
  refine ord_still rfl rfl (fun K hK => ?_); apply Exists.intro; refine ⟨fun w' hw' => ?_, ?_⟩; (have HX := HXC.out w' hw'; go_simp; first | done | exact ⟨rfl, rfl⟩ | exact rfl); (go_simp; refine hK _ ?_; clear hK K)
  refine ord_sole rfl rfl (fun K hK => ?_)
  refine mix_app_own w2.drew (.tmp 20) (.tmp 24) 65 rfl w1.heap.size 79 (.agg #[.int .i64 0, .int .u64 0, .int .u64 0]) 3 24 Tryz.underlying65 Tryz.infoRSlot rfl (by decide) (.slice A2 k c2) k _ rfl HO2.out pp (L.length - (k + 1)) (c - (k + 1)) _ rfl HRD.out (cellsOf_one Sv.cells_one _) n1 n2 hs2' ?_
  intro A3 c3 w3 h5 h6
  have hb3 : RowKit.Below w1.heap.size w1 w3 := HB12.out.drew.grown h6 hs2' (fun z hz => own_base H2.out z hz)
  refine ⟨hb3, ?_⟩
  have H5 := Lib.hid h5; clear h5
  have HB3 := Lib.hid hb3; clear hb3 h6
  go_simp
  refine hK _ _ ?_; clear hK K
  refine ord_still rfl rfl (fun K hK => ?_); apply Exists.intro; refine ⟨fun w' hw' => ?_, ?_⟩; (have HX := HXC.out w' hw'; go_simp; first | done | exact ⟨rfl, rfl⟩ | exact rfl); (go_simp; refine hK _ ?_; clear hK K)
  refine ord_still rfl rfl (fun K hK => ?_); apply Exists.intro; refine ⟨fun w' hw' => ?_, ?_⟩; (have HX := HXC.out w' hw'; go_simp; first | done | exact ⟨rfl, rfl⟩ | exact rfl); (go_simp; refine hK _ ?_; clear hK K)
  refine ord_still rfl rfl (fun K hK => ?_); apply Exists.intro; refine ⟨fun w' hw' => ?_, ?_⟩; (have HX := HXC.out w' hw'; go_simp; first | done | exact ⟨rfl, rfl⟩ | exact rfl); (go_simp; refine hK _ ?_; clear hK K)
  refine ord_nil ?_
  intro hCx
  have hel : (L.eraseIdx k).length = L.length - 1 := List.length_eraseIdx_of_lt hkl
  have hn3 : k + (L.length - (k + 1)) = L.length - 1 := by omega
  have hel2 : L.eraseIdx k = L.take k ++ L.drop (k + 1) := List.eraseIdx_eq_take_drop_succ L k
  have H5b := Lib.hid (show Rr w3 w.heap.size A3 c3 (L.eraseIdx k) from by
    unfold Rr
    rw [hel, ← hn3, hel2, cellsOf_append]
    exact own_mono H5.out hsz)
  have HEL := Lib.hid hel; clear hel hel2
  have HN3 := Lib.hid hn3; clear hn3
  go_wp2
  go_ret3
  exact ⟨A3, c3, by rw [HEL.out, ← HN3.out]; rfl, H5b.out, below_step HB.out hsz HB3.out⟩
end Go.Proofs.YtonfaojmphidpaaGreatDoor
