/- Chapter 9: the text of any event. -/
import Derived.Test.YtonfaojmphidpaaGreatDoorHisW
namespace Go.Proofs.YtonfaojmphidpaaGreatDoor
open Go.RowKit Go.Shelf Go.Sort Go.Lib
set_option linter.unusedVariables false
set_option linter.unusedSimpArgs false
def fmtB (u : Int) : ByteArray := ⟨(Lib.decDigits u.toNat).toArray⟩
def itoB (n : Int) : ByteArray := ⟨(Lib.itoa n).toArray⟩
def kindsL : List ByteArray := [⟨#[99, 97, 108, 108]⟩, ⟨#[112, 111, 105, 110, 116]⟩, ⟨#[97, 110, 115, 119, 101, 114]⟩, ⟨#[114, 101, 116, 105, 114, 101]⟩]
def opsL : List ByteArray := [⟨#[103, 101, 116]⟩, ⟨#[112, 117, 116]⟩, ⟨#[101, 118, 105, 99, 116]⟩, ⟨#[99, 108, 111, 115, 101]⟩, ⟨#[104, 111, 117, 115, 101]⟩]
def evParts (st th kd op id er : Int) : List ByteArray := [fmtB st, itoB th, wordB kd kindsL, wordB op opsL, fmtB id, itoB er]
def evText (st th kd op id er : Int) : ByteArray := ⟨(Lib.join ((evParts st th kd op id er).map (·.data.toList)) [32]).toArray⟩
theorem below_gr (w : World) (q : Nat) (os : Array Obj) : RowKit.Below w.heap.size w (grow (w.drewN q) os) :=
  ⟨rfl, rfl, rfl, by show w.heap.size ≤ (w.heap ++ os).size; rw [Array.size_append]; omega, fun j hj => heap_grow_old w q os j (by omega)⟩
theorem fmtU_ (u : Int) (h0 : 0 ≤ u) (h1 : u ≤ 18446744073709551615) (w : World) (ht : Pow10 w) :
    Calls Tryz.prog 99 #[.int .u64 u, .int .i64 10] w fun e w' => e = .returned (.string (fmtB u)) ∧ RowKit.Below w.heap.size w w' := by
  refine (formatUint_any u h0 (by omega) w ht).mono ?_
  rintro e w' ⟨rfl, k, os, rfl⟩
  exact ⟨rfl, below_gr _ _ _⟩
theorem itoa_ (n : Int) (h0 : -9223372036854775808 ≤ n) (h1 : n ≤ 9223372036854775807) (w : World) (ht : Pow10 w) :
    Calls Tryz.prog 100 #[.int .i64 n] w fun e w' => e = .returned (.string (itoB n)) ∧ RowKit.Below w.heap.size w w' := by
  refine (strconv_Itoa_any n h0 h1 w ht).mono ?_
  rintro e w' ⟨rfl, k, os, rfl⟩
  exact ⟨rfl, below_gr _ _ _⟩
theorem dec_len (u : Nat) (h : u < 18446744073709551616) : (Lib.decDigits u).length ≤ 20 := by
  rw [Lib.decDigits_length]
  by_cases h1 : 1 ≤ u
  · have := Lib.numDigits_eq u h1 h; split at this <;> omega
  · obtain rfl : u = 0 := by omega
    decide +kernel
theorem fmtB_len (u : Int) (h0 : 0 ≤ u) (h1 : u ≤ 18446744073709551615) : (fmtB u).data.toList.length ≤ 20 := dec_len _ (by omega)
theorem itoB_len (n : Int) (h0 : -9223372036854775808 ≤ n) (h1 : n ≤ 9223372036854775807) : (itoB n).data.toList.length ≤ 21 := by
  show (Lib.itoa n).length ≤ 21
  by_cases h : n < 0
  · obtain ⟨u, rfl⟩ : ∃ u : Nat, n = -(u : Int) := ⟨n.natAbs, by omega⟩
    rw [Lib.itoa_neg u (by omega), List.length_cons]
    have := dec_len u (by omega); omega
  · obtain ⟨u, rfl⟩ : ∃ u : Nat, n = u := ⟨n.toNat, by omega⟩
    rw [Lib.itoa_nonneg]
    have := dec_len u (by omega); omega
theorem wordB_len {l : List ByteArray} (h : ∀ x ∈ l, x.data.toList.length ≤ 6) (i : Int) : (wordB i l).data.toList.length ≤ 6 := by
  unfold wordB
  split
  · rename_i hi
    have hk : i.toNat < l.length := by omega
    rw [List.getD_eq_getElem?_getD, List.getElem?_eq_getElem hk]
    exact h _ (List.getElem_mem hk)
  · decide
theorem kindsL_len : ∀ x ∈ kindsL, x.data.toList.length ≤ 6 := by decide
theorem opsL_len : ∀ x ∈ opsL, x.data.toList.length ≤ 6 := by decide
theorem six_len (a b c d e f : List UInt8) : (Lib.join [a, b, c, d, e, f] [32]).length = a.length + b.length + c.length + d.length + e.length + f.length + 5 := by
  simp [Lib.join]; omega
theorem hist_kind (i : Int) (W : World) :
    Calls Tryz.prog 97 #[.int .i64 i, .slice (some ⟨W.heap.size, 0, none⟩) 4 4] (W.alloc (.cells #[.string ⟨#[99, 97, 108, 108]⟩, .string ⟨#[112, 111, 105, 110, 116]⟩, .string ⟨#[97, 110, 115, 119, 101, 114]⟩, .string ⟨#[114, 101, 116, 105, 114, 101]⟩] 9)) fun e w' => e = .returned (.string (wordB i kindsL)) ∧ w' = W.alloc (.cells #[.string ⟨#[99, 97, 108, 108]⟩, .string ⟨#[112, 111, 105, 110, 116]⟩, .string ⟨#[97, 110, 115, 119, 101, 114]⟩, .string ⟨#[114, 101, 116, 105, 114, 101]⟩] 9) := by
  have h := hist_word i W.heap.size kindsL (W.alloc (.cells #[.string ⟨#[99, 97, 108, 108]⟩, .string ⟨#[112, 111, 105, 110, 116]⟩, .string ⟨#[97, 110, 115, 119, 101, 114]⟩, .string ⟨#[114, 101, 116, 105, 114, 101]⟩] 9)) (fun k x hx => by
    have := (Blk.new W 9 #[.string ⟨#[99, 97, 108, 108]⟩, .string ⟨#[112, 111, 105, 110, 116]⟩, .string ⟨#[97, 110, 115, 119, 101, 114]⟩, .string ⟨#[114, 101, 116, 105, 114, 101]⟩]).cell k
    rw [this]
    rcases k with _ | _ | _ | _ | _ | k <;> simp [kindsL] at hx ⊢ <;> exact hx)
  exact h.mono (fun e w' ⟨h1, h2⟩ => ⟨h1, h2.symm⟩)
theorem hist_kind_at (i : Int) (b : Nat) (W : World) (hb : Blk W b 9 #[.string ⟨#[99, 97, 108, 108]⟩, .string ⟨#[112, 111, 105, 110, 116]⟩, .string ⟨#[97, 110, 115, 119, 101, 114]⟩, .string ⟨#[114, 101, 116, 105, 114, 101]⟩]) :
    Calls Tryz.prog 97 #[.int .i64 i, .slice (some ⟨b, 0, none⟩) 4 4] W fun e w' => e = .returned (.string (wordB i kindsL)) ∧ w' = W := by
  have h := hist_word i b kindsL W (fun k x hx => by
    have := hb.cell k
    rw [this]
    rcases k with _ | _ | _ | _ | _ | k <;> simp [kindsL] at hx ⊢ <;> exact hx)
  exact h.mono (fun e w' ⟨h1, h2⟩ => ⟨h1, h2.symm⟩)
theorem hist_op (i : Int) (W : World) :
    Calls Tryz.prog 97 #[.int .i64 i, .slice (some ⟨W.heap.size, 0, none⟩) 5 5] (W.alloc (.cells #[.string ⟨#[103, 101, 116]⟩, .string ⟨#[112, 117, 116]⟩, .string ⟨#[101, 118, 105, 99, 116]⟩, .string ⟨#[99, 108, 111, 115, 101]⟩, .string ⟨#[104, 111, 117, 115, 101]⟩] 9)) fun e w' => e = .returned (.string (wordB i opsL)) ∧ w' = W.alloc (.cells #[.string ⟨#[103, 101, 116]⟩, .string ⟨#[112, 117, 116]⟩, .string ⟨#[101, 118, 105, 99, 116]⟩, .string ⟨#[99, 108, 111, 115, 101]⟩, .string ⟨#[104, 111, 117, 115, 101]⟩] 9) := by
  have h := hist_word i W.heap.size opsL (W.alloc (.cells #[.string ⟨#[103, 101, 116]⟩, .string ⟨#[112, 117, 116]⟩, .string ⟨#[101, 118, 105, 99, 116]⟩, .string ⟨#[99, 108, 111, 115, 101]⟩, .string ⟨#[104, 111, 117, 115, 101]⟩] 9)) (fun k x hx => by
    have := (Blk.new W 9 #[.string ⟨#[103, 101, 116]⟩, .string ⟨#[112, 117, 116]⟩, .string ⟨#[101, 118, 105, 99, 116]⟩, .string ⟨#[99, 108, 111, 115, 101]⟩, .string ⟨#[104, 111, 117, 115, 101]⟩]).cell k
    rw [this]
    rcases k with _ | _ | _ | _ | _ | k <;> simp [opsL] at hx ⊢ <;> exact hx)
  exact h.mono (fun e w' ⟨h1, h2⟩ => ⟨h1, h2.symm⟩)
theorem hist_op_at (i : Int) (b : Nat) (W : World) (hb : Blk W b 9 #[.string ⟨#[103, 101, 116]⟩, .string ⟨#[112, 117, 116]⟩, .string ⟨#[101, 118, 105, 99, 116]⟩, .string ⟨#[99, 108, 111, 115, 101]⟩, .string ⟨#[104, 111, 117, 115, 101]⟩]) :
    Calls Tryz.prog 97 #[.int .i64 i, .slice (some ⟨b, 0, none⟩) 5 5] W fun e w' => e = .returned (.string (wordB i opsL)) ∧ w' = W := by
  have h := hist_word i b opsL W (fun k x hx => by
    have := hb.cell k
    rw [this]
    rcases k with _ | _ | _ | _ | _ | k <;> simp [opsL] at hx ⊢ <;> exact hx)
  exact h.mono (fun e w' ⟨h1, h2⟩ => ⟨h1, h2.symm⟩)
theorem ref09_kind (i : Int) (W : World) :
    Calls Tryz.prog 101 #[.int .i64 i, .slice (some ⟨W.heap.size, 0, none⟩) 4 4] (W.alloc (.cells #[.string ⟨#[99, 97, 108, 108]⟩, .string ⟨#[112, 111, 105, 110, 116]⟩, .string ⟨#[97, 110, 115, 119, 101, 114]⟩, .string ⟨#[114, 101, 116, 105, 114, 101]⟩] 9)) fun e w' => e = .returned (.string (wordB i kindsL)) ∧ w' = W.alloc (.cells #[.string ⟨#[99, 97, 108, 108]⟩, .string ⟨#[112, 111, 105, 110, 116]⟩, .string ⟨#[97, 110, 115, 119, 101, 114]⟩, .string ⟨#[114, 101, 116, 105, 114, 101]⟩] 9) := by
  have h := ref09_word i W.heap.size kindsL (W.alloc (.cells #[.string ⟨#[99, 97, 108, 108]⟩, .string ⟨#[112, 111, 105, 110, 116]⟩, .string ⟨#[97, 110, 115, 119, 101, 114]⟩, .string ⟨#[114, 101, 116, 105, 114, 101]⟩] 9)) (fun k x hx => by
    have := (Blk.new W 9 #[.string ⟨#[99, 97, 108, 108]⟩, .string ⟨#[112, 111, 105, 110, 116]⟩, .string ⟨#[97, 110, 115, 119, 101, 114]⟩, .string ⟨#[114, 101, 116, 105, 114, 101]⟩]).cell k
    rw [this]
    rcases k with _ | _ | _ | _ | _ | k <;> simp [kindsL] at hx ⊢ <;> exact hx)
  exact h.mono (fun e w' ⟨h1, h2⟩ => ⟨h1, h2.symm⟩)
theorem ref09_kind_at (i : Int) (b : Nat) (W : World) (hb : Blk W b 9 #[.string ⟨#[99, 97, 108, 108]⟩, .string ⟨#[112, 111, 105, 110, 116]⟩, .string ⟨#[97, 110, 115, 119, 101, 114]⟩, .string ⟨#[114, 101, 116, 105, 114, 101]⟩]) :
    Calls Tryz.prog 101 #[.int .i64 i, .slice (some ⟨b, 0, none⟩) 4 4] W fun e w' => e = .returned (.string (wordB i kindsL)) ∧ w' = W := by
  have h := ref09_word i b kindsL W (fun k x hx => by
    have := hb.cell k
    rw [this]
    rcases k with _ | _ | _ | _ | _ | k <;> simp [kindsL] at hx ⊢ <;> exact hx)
  exact h.mono (fun e w' ⟨h1, h2⟩ => ⟨h1, h2.symm⟩)
theorem ref09_op (i : Int) (W : World) :
    Calls Tryz.prog 101 #[.int .i64 i, .slice (some ⟨W.heap.size, 0, none⟩) 5 5] (W.alloc (.cells #[.string ⟨#[103, 101, 116]⟩, .string ⟨#[112, 117, 116]⟩, .string ⟨#[101, 118, 105, 99, 116]⟩, .string ⟨#[99, 108, 111, 115, 101]⟩, .string ⟨#[104, 111, 117, 115, 101]⟩] 9)) fun e w' => e = .returned (.string (wordB i opsL)) ∧ w' = W.alloc (.cells #[.string ⟨#[103, 101, 116]⟩, .string ⟨#[112, 117, 116]⟩, .string ⟨#[101, 118, 105, 99, 116]⟩, .string ⟨#[99, 108, 111, 115, 101]⟩, .string ⟨#[104, 111, 117, 115, 101]⟩] 9) := by
  have h := ref09_word i W.heap.size opsL (W.alloc (.cells #[.string ⟨#[103, 101, 116]⟩, .string ⟨#[112, 117, 116]⟩, .string ⟨#[101, 118, 105, 99, 116]⟩, .string ⟨#[99, 108, 111, 115, 101]⟩, .string ⟨#[104, 111, 117, 115, 101]⟩] 9)) (fun k x hx => by
    have := (Blk.new W 9 #[.string ⟨#[103, 101, 116]⟩, .string ⟨#[112, 117, 116]⟩, .string ⟨#[101, 118, 105, 99, 116]⟩, .string ⟨#[99, 108, 111, 115, 101]⟩, .string ⟨#[104, 111, 117, 115, 101]⟩]).cell k
    rw [this]
    rcases k with _ | _ | _ | _ | _ | k <;> simp [opsL] at hx ⊢ <;> exact hx)
  exact h.mono (fun e w' ⟨h1, h2⟩ => ⟨h1, h2.symm⟩)
theorem ref09_op_at (i : Int) (b : Nat) (W : World) (hb : Blk W b 9 #[.string ⟨#[103, 101, 116]⟩, .string ⟨#[112, 117, 116]⟩, .string ⟨#[101, 118, 105, 99, 116]⟩, .string ⟨#[99, 108, 111, 115, 101]⟩, .string ⟨#[104, 111, 117, 115, 101]⟩]) :
    Calls Tryz.prog 101 #[.int .i64 i, .slice (some ⟨b, 0, none⟩) 5 5] W fun e w' => e = .returned (.string (wordB i opsL)) ∧ w' = W := by
  have h := ref09_word i b opsL W (fun k x hx => by
    have := hb.cell k
    rw [this]
    rcases k with _ | _ | _ | _ | _ | k <;> simp [opsL] at hx ⊢ <;> exact hx)
  exact h.mono (fun e w' ⟨h1, h2⟩ => ⟨h1, h2.symm⟩)

set_option maxRecDepth 100000 in
set_option maxHeartbeats 4000000 in
theorem hist_Text (st th kd op id er : Int) (h1 : 0 ≤ st ∧ st ≤ 18446744073709551615) (h2 : -9223372036854775808 ≤ th ∧ th ≤ 9223372036854775807) (h5 : 0 ≤ id ∧ id ≤ 18446744073709551615) (h6 : -9223372036854775808 ≤ er ∧ er ≤ 9223372036854775807) (w : World) (ht : Pow10 w) :
    Calls Tryz.prog 72 #[.agg #[.int .u64 st, .int .i64 th, .int .i64 kd, .int .i64 op, .int .u64 id, .int .i64 er]] w fun e w' => e = .returned (.string (evText st th kd op id er)) ∧ RowKit.Below w.heap.size w w' := by
  have hl := six_len (fmtB st).data.toList (itoB th).data.toList (wordB kd kindsL).data.toList (wordB op opsL).data.toList (fmtB id).data.toList (itoB er).data.toList
  have hl1 := fmtB_len st h1.1 h1.2
  have hl2 := itoB_len th h2.1 h2.2
  have hl3 := wordB_len kindsL_len kd
  have hl4 := wordB_len opsL_len op
  have hl5 := fmtB_len id h5.1 h5.2
  have hl6 := itoB_len er h6.1 h6.2
  have hlen : (Lib.join ([fmtB st, itoB th, wordB kd kindsL, wordB op opsL, fmtB id, itoB er].map (·.data.toList)) [32]).length ≤ 140737488355328 := by
    show (Lib.join [(fmtB st).data.toList, (itoB th).data.toList, (wordB kd kindsL).data.toList, (wordB op opsL).data.toList, (fmtB id).data.toList, (itoB er).data.toList] [32]).length ≤ _
    omega
  have htx : (⟨(Lib.join ([fmtB st, itoB th, wordB kd kindsL, wordB op opsL, fmtB id, itoB er].map (·.data.toList)) [32]).toArray⟩ : ByteArray) = evText st th kd op id er := rfl
  have HTX := Lib.hid htx; clear htx
  have HLEN := Lib.hid hlen; clear hlen hl hl1 hl2 hl3 hl4 hl5 hl6
  have hj := fun (wq : World) => strings_Join_ wq.heap.size 0 6 [fmtB st, itoB th, wordB kd kindsL, wordB op opsL, fmtB id, itoB er] ⟨#[32]⟩ (wq.alloc (.cells #[.string (fmtB st), .string (itoB th), .string (wordB kd kindsL), .string (wordB op opsL), .string (fmtB id), .string (itoB er)] 9))
    (fun j x hx => by
      have := (Blk.new wq 9 #[.string (fmtB st), .string (itoB th), .string (wordB kd kindsL), .string (wordB op opsL), .string (fmtB id), .string (itoB er)]).cell (0 + j)
      rw [this, Nat.zero_add]
      rcases j with _ | _ | _ | _ | _ | _ | j <;> simp at hx ⊢ <;> exact hx) (by rw [size_alloc]; omega) (by show 6 ≤ _; decide) (by show 6 ≤ 6; decide) HLEN.out
  generalize hE3 : wordB kd kindsL = k3 at *
  generalize hE4 : wordB op opsL = k4 at *
  have HE3 := Lib.hid hE3; clear hE3
  have HE4 := Lib.hid hE4; clear hE4
  have hw1 := hist_kind kd (w.alloc (.cells #[.int .u64 st, .int .i64 th, .int .i64 kd, .int .i64 op, .int .u64 id, .int .i64 er] 108))
  have hw2 := hist_op op ((w.alloc (.cells #[.int .u64 st, .int .i64 th, .int .i64 kd, .int .i64 op, .int .u64 id, .int .i64 er] 108)).alloc (.cells #[.string ⟨#[99, 97, 108, 108]⟩, .string ⟨#[112, 111, 105, 110, 116]⟩, .string ⟨#[97, 110, 115, 119, 101, 114]⟩, .string ⟨#[114, 101, 116, 105, 114, 101]⟩] 9))
  simp only [size_alloc] at hw1 hw2
  rw [HE3.out] at hw1
  rw [HE4.out] at hw2
  have HW1 := Lib.hid hw1; clear hw1
  have HW2 := Lib.hid hw2; clear hw2
  have kb := Blk.new w 108 #[.int .u64 st, .int .i64 th, .int .i64 kd, .int .i64 op, .int .u64 id, .int .i64 er]
  have hb0 := (RowKit.Below.refl w.heap.size w).alloc (Nat.le_refl _) (.cells #[.int .u64 st, .int .i64 th, .int .i64 kd, .int .i64 op, .int .u64 id, .int .i64 er] 108)
  have kb1 := (kb.alloc (.cells #[.string ⟨#[99, 97, 108, 108]⟩, .string ⟨#[112, 111, 105, 110, 116]⟩, .string ⟨#[97, 110, 115, 119, 101, 114]⟩, .string ⟨#[114, 101, 116, 105, 114, 101]⟩] 9)).alloc (.cells #[.string ⟨#[103, 101, 116]⟩, .string ⟨#[112, 117, 116]⟩, .string ⟨#[101, 118, 105, 99, 116]⟩, .string ⟨#[99, 108, 111, 115, 101]⟩, .string ⟨#[104, 111, 117, 115, 101]⟩] 9)
  have hb2 := (hb0.alloc hb0.size (.cells #[.string ⟨#[99, 97, 108, 108]⟩, .string ⟨#[112, 111, 105, 110, 116]⟩, .string ⟨#[97, 110, 115, 119, 101, 114]⟩, .string ⟨#[114, 101, 116, 105, 114, 101]⟩] 9))
  have hb3 := hb2.alloc hb2.size (.cells #[.string ⟨#[103, 101, 116]⟩, .string ⟨#[112, 117, 116]⟩, .string ⟨#[101, 118, 105, 99, 116]⟩, .string ⟨#[99, 108, 111, 115, 101]⟩, .string ⟨#[104, 111, 117, 115, 101]⟩] 9)
  obtain ⟨W, hW⟩ : ∃ W, W = ((w.alloc (.cells #[.int .u64 st, .int .i64 th, .int .i64 kd, .int .i64 op, .int .u64 id, .int .i64 er] 108)).alloc (.cells #[.string ⟨#[99, 97, 108, 108]⟩, .string ⟨#[112, 111, 105, 110, 116]⟩, .string ⟨#[97, 110, 115, 119, 101, 114]⟩, .string ⟨#[114, 101, 116, 105, 114, 101]⟩] 9)).alloc (.cells #[.string ⟨#[103, 101, 116]⟩, .string ⟨#[112, 117, 116]⟩, .string ⟨#[101, 118, 105, 99, 116]⟩, .string ⟨#[99, 108, 111, 115, 101]⟩, .string ⟨#[104, 111, 117, 115, 101]⟩] 9) := ⟨_, rfl⟩
  rw [← hW] at kb1 hb3
  have htW : Pow10 W := ht.below hb3
  have HW := Lib.hid hW; clear hW
  have hxc : ∀ w', RowKit.Below W.heap.size W w' → w'.cell? ⟨w.heap.size, 0, none⟩ = some (.int .u64 st) ∧ w'.cell? ⟨w.heap.size, 1, none⟩ = some (.int .i64 th) ∧ w'.cell? ⟨w.heap.size, 4, none⟩ = some (.int .u64 id) ∧ w'.cell? ⟨w.heap.size, 5, none⟩ = some (.int .i64 er) := fun w' hw' => by
    have := kb1.of_below hw'
    exact ⟨by rw [this.cell]; rfl, by rw [this.cell]; rfl, by rw [this.cell]; rfl, by rw [this.cell]; rfl⟩
  have HX := Lib.hid hxc; clear hxc
  have HB3 := Lib.hid hb3; clear hb3 hb2 hb0 kb1 kb
  have HJ := Lib.hid hj; clear hj
  have HT := Lib.hid htW; clear htW ht
  go_enter Tryz.func72, Tryz.ntmps72
  go_wp2_with fail
  refine HW1.out.mono ?_
  rintro e w' ⟨rfl, rfl⟩
  go_wp2_with fail
  refine HW2.out.mono ?_
  rintro e w' ⟨rfl, rfl⟩
  go_wp2_with fail
  rw [← HW.out]
  have HP0 := Lib.hid (show RowKit.Below W.heap.size W W.drew from (RowKit.Below.refl _ _).drew)
  refine wp_region_mix (fun w' => RowKit.Below W.heap.size W w') [(0, true), (1, true), (3, true), (4, true), (6, true), (7, true), (8, true), (9, true), (11, true), (12, true), (2, false), (5, false), (10, false), (13, false), (14, false), (15, false), (16, true)] (by kernel_rfl) (by kernel_rfl) HP0.out ?_
  refine ord_still rfl rfl (fun K hK => ?_); apply Exists.intro; refine ⟨fun w' hw' => ?_, ?_⟩; (obtain ⟨z0, z1, z2, z3⟩ := HX.out w' hw'; go_simp; first | done | exact ⟨rfl, rfl⟩ | exact rfl); (go_simp; refine hK _ ?_; clear hK K)
  refine ord_still rfl rfl (fun K hK => ?_); apply Exists.intro; refine ⟨fun w' hw' => ?_, ?_⟩; (obtain ⟨z0, z1, z2, z3⟩ := HX.out w' hw'; go_simp; first | done | exact ⟨rfl, rfl⟩ | exact rfl); (go_simp; refine hK _ ?_; clear hK K)
  refine ord_still rfl rfl (fun K hK => ?_); apply Exists.intro; refine ⟨fun w' hw' => ?_, ?_⟩; (obtain ⟨z0, z1, z2, z3⟩ := HX.out w' hw'; go_simp; first | done | exact ⟨rfl, rfl⟩ | exact rfl); (go_simp; refine hK _ ?_; clear hK K)
  refine ord_still rfl rfl (fun K hK => ?_); apply Exists.intro; refine ⟨fun w' hw' => ?_, ?_⟩; (obtain ⟨z0, z1, z2, z3⟩ := HX.out w' hw'; go_simp; first | done | exact ⟨rfl, rfl⟩ | exact rfl); (go_simp; refine hK _ ?_; clear hK K)
  refine ord_still rfl rfl (fun K hK => ?_); apply Exists.intro; refine ⟨fun w' hw' => ?_, ?_⟩; (obtain ⟨z0, z1, z2, z3⟩ := HX.out w' hw'; go_simp; first | done | exact ⟨rfl, rfl⟩ | exact rfl); (go_simp; refine hK _ ?_; clear hK K)
  refine ord_still rfl rfl (fun K hK => ?_); apply Exists.intro; refine ⟨fun w' hw' => ?_, ?_⟩; (obtain ⟨z0, z1, z2, z3⟩ := HX.out w' hw'; go_simp; first | done | exact ⟨rfl, rfl⟩ | exact rfl); (go_simp; refine hK _ ?_; clear hK K)
  refine ord_still rfl rfl (fun K hK => ?_); apply Exists.intro; refine ⟨fun w' hw' => ?_, ?_⟩; (obtain ⟨z0, z1, z2, z3⟩ := HX.out w' hw'; go_simp; first | done | exact ⟨rfl, rfl⟩ | exact rfl); (go_simp; refine hK _ ?_; clear hK K)
  refine ord_still rfl rfl (fun K hK => ?_); apply Exists.intro; refine ⟨fun w' hw' => ?_, ?_⟩; (obtain ⟨z0, z1, z2, z3⟩ := HX.out w' hw'; go_simp; first | done | exact ⟨rfl, rfl⟩ | exact rfl); (go_simp; refine hK _ ?_; clear hK K)
  refine ord_still rfl rfl (fun K hK => ?_); apply Exists.intro; refine ⟨fun w' hw' => ?_, ?_⟩; (obtain ⟨z0, z1, z2, z3⟩ := HX.out w' hw'; go_simp; first | done | exact ⟨rfl, rfl⟩ | exact rfl); (go_simp; refine hK _ ?_; clear hK K)
  refine ord_still rfl rfl (fun K hK => ?_); apply Exists.intro; refine ⟨fun w' hw' => ?_, ?_⟩; (obtain ⟨z0, z1, z2, z3⟩ := HX.out w' hw'; go_simp; first | done | exact ⟨rfl, rfl⟩ | exact rfl); (go_simp; refine hK _ ?_; clear hK K)
  refine ord_sole rfl rfl (fun K hK => ?_); go_simp
  refine (fmtU_ st h1.1 h1.2 _ (HT.out.below HP0.out)).mono ?_
  rintro e u1 ⟨rfl, hb⟩
  have hc' := below_step HP0.out (RowKit.Below.size HP0.out) hb
  refine ⟨_, rfl, hc', ?_⟩
  have HC1 := Lib.hid hc'; clear hc' hb
  go_simp
  refine hK _ _ ?_; clear hK K
  refine ord_sole rfl rfl (fun K hK => ?_); go_simp
  refine (itoa_ th h2.1 h2.2 _ (HT.out.below HC1.out)).mono ?_
  rintro e u2 ⟨rfl, hb⟩
  have hc' := below_step HC1.out (RowKit.Below.size HC1.out) hb
  refine ⟨_, rfl, hc', ?_⟩
  have HC2 := Lib.hid hc'; clear hc' hb
  go_simp
  refine hK _ _ ?_; clear hK K
  refine ord_sole rfl rfl (fun K hK => ?_); go_simp
  refine (fmtU_ id h5.1 h5.2 _ (HT.out.below HC2.out)).mono ?_
  rintro e u3 ⟨rfl, hb⟩
  have hc' := below_step HC2.out (RowKit.Below.size HC2.out) hb
  refine ⟨_, rfl, hc', ?_⟩
  have HC3 := Lib.hid hc'; clear hc' hb
  go_simp
  refine hK _ _ ?_; clear hK K
  refine ord_sole rfl rfl (fun K hK => ?_); go_simp
  refine (itoa_ er h6.1 h6.2 _ (HT.out.below HC3.out)).mono ?_
  rintro e u4 ⟨rfl, hb⟩
  have hc' := below_step HC3.out (RowKit.Below.size HC3.out) hb
  refine ⟨_, rfl, hc', ?_⟩
  have HC4 := Lib.hid hc'; clear hc' hb
  go_simp
  refine hK _ _ ?_; clear hK K
  refine ord_sole rfl rfl (fun K hK => ?_); go_simp
  have hc5 := HC4.out.alloc HC4.out.size (.cells #[.string (fmtB st), .string (itoB th), .string k3, .string k4, .string (fmtB id), .string (itoB er)] 9)
  refine ⟨hc5, ?_⟩
  have HC5 := Lib.hid hc5; clear hc5
  refine hK _ _ ?_; clear hK K
  refine ord_sole rfl rfl (fun K hK => ?_); go_simp
  refine (HJ.out u4).mono ?_
  rintro e u6 ⟨rfl, hb⟩
  have hc' := below_step HC5.out HC5.out.size hb
  refine ⟨_, rfl, hc', ?_⟩
  have HC6 := Lib.hid hc'; clear hc' hb
  rw [HTX.out]
  go_simp
  refine hK _ _ ?_; clear hK K
  refine ord_still rfl rfl (fun K hK => ?_); apply Exists.intro; refine ⟨fun w' hw' => ?_, ?_⟩; (go_simp; first | done | exact ⟨rfl, rfl⟩ | exact rfl); (go_simp; refine hK _ ?_; clear hK K)
  refine ord_nil ?_
  intro hCx
  go_wp2
  go_ret
  exact ⟨rfl, below_step HB3.out HB3.out.size HC6.out⟩
end Go.Proofs.YtonfaojmphidpaaGreatDoor
