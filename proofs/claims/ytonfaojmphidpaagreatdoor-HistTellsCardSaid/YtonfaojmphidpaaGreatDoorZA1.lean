/- Joined: Mem, Join, FmtU, App, Num, Sl, SlDel, SlFn, Clones, Tail, SlInt, Mix. -/
import Derived.WalkKit
import Derived.WalkSpells
import Derived.WalkLawsBesides
import Derived.Lib.Hide
import Derived.BigQuiet
import Derived.Deep.Quiet
import Derived.Test.YtonfaojmphidpaaGreatDoorProg
import Derived.Shelf.Strings.OnBuilder
import Derived.Shelf.Strconv.Itoa3
import Derived.Maps.AppendAt
import Derived.ArgAppend
import Derived.Laws.BitsAllLaws
import Derived.Deep.QuietTactic
import Derived.Deep.RegionLaw
import Derived.Deep.Upon
import Derived.Lib.SliceRun
import Derived.StillTail

/- Blocks of cells that are known whole, and what keeps them. -/
namespace Go.Proofs.YtonfaojmphidpaaGreatDoor
open Go.RowKit
set_option linter.unusedVariables false

/-- Block g holds just the cells cs, of element type t, none of them frozen. -/
def Blk (w : World) (g : Nat) (t : TypeId) (cs : Array Value) : Prop := w.heap[g]? = some (.cells cs t (0, 0))
section
variable {w w' : World} {g : Nat} {t : TypeId} {cs : Array Value}
theorem Blk.lt (h : Blk w g t cs) : g < w.heap.size := (Array.getElem?_eq_some_iff.1 h).1
theorem Blk.cell (h : Blk w g t cs) (i : Nat) : w.cell? ⟨g, i, none⟩ = cs[i]? := by unfold Blk at h; simp [World.cell?, h]
theorem Blk.frozen (h : Blk w g t cs) (i : Nat) : w.frozen? ⟨g, i, none⟩ = false := by unfold Blk at h; simp [World.frozen?, h]
theorem Blk.new (w : World) (t : TypeId) (cs : Array Value) : Blk (w.alloc (.cells cs t)) w.heap.size t cs := heap_alloc_new w _
theorem Blk.drew (h : Blk w g t cs) : Blk w.drew g t cs := h
theorem Blk.alloc (h : Blk w g t cs) (o : Obj) : Blk (w.alloc o) g t cs := (Below.heap_alloc w o g h.lt).trans h
theorem Blk.put (h : Blk w g t cs) (i : Nat) (u : Value) : Blk (w.setCell ⟨g, i, none⟩ u) g t (cs.setIfInBounds i u) := by
  unfold Blk at h ⊢
  simp [World.setCell, Array.getElem?_modify, h]
theorem Blk.far (h : Blk w g t cs) {p : Addr} (hp : g ≠ p.block) (u : Value) : Blk (w.setCell p u) g t cs := (Below.heap_setCell w p u g hp).trans h
theorem Blk.below {B : Nat} (h : Blk w g t cs) (hb : Below B w w') (hg : g < B) : Blk w' g t cs := (hb.block g hg).trans h
theorem Blk.of_below (h : Blk w g t cs) (hb : Below w.heap.size w w') : Blk w' g t cs := h.below hb h.lt
end
theorem below_step {B : Nat} {a b c : World} (h : Below B a b) (hB : B ≤ b.heap.size) (k : Below b.heap.size b c) : Below B a c := h.trans (k.mono hB)
theorem size_setCell (w : World) (a : Addr) (v : Value) : (w.setCell a v).heap.size = w.heap.size := by simp [World.setCell]
theorem size_alloc (w : World) (o : Obj) : (w.alloc o).heap.size = w.heap.size + 1 := World.size_alloc w o
/-- A region that draws its order, walked in the order of the text, over a class of worlds. -/
theorem wp_region_class {P : Program} (C : World → Prop) {id : Nat} {Q : Exit → Act → World → Prop} {a : Act} {w : World} {l : List Oper} (hm : P.follows .mixedOrders = true) (hB : Region.lexB .any l.toArray = true) (hC : C w.drew)
    (h : wpQuiet P l.toArray C (fun a' => ∀ w', C w' → Q .normal a' w') l a) : (Code.region id l.toArray true).wp P Q a w :=
  wp_region_quiet (C := C) hm hB hC (by simpa using h)
end Go.Proofs.YtonfaojmphidpaaGreatDoor

/- strings.Join and strconv.Itoa of small numbers, by the shelf. -/
namespace Go.Proofs
open Go.RowKit Go.Shelf
def Tryz.joinL_ren : Go.Shelf.Ren := ⟨fun | 156 => 98 | 165 => 108 | 166 => 109 | 169 => 110 | 240 => 119 | 241 => 120 | 276 => 140 | 277 => 141 | n => n, fun | 31 => 163 | 9 => 9 | 3 => 3 | 4 => 4 | 0 => 0 | 20 => 20 | 72 => 170 | 76 => 174 | 70 => 167 | 37 => 168 | 75 => 173 | 127 => 183 | 164 => 204 | 5 => 5 | 80 => 124 | n => n, fun | n => n⟩
theorem Tryz.joinL : Go.Proofs.Lays.n156 Tryz.prog Tryz.joinL_ren := {
  mixed := by kernel_rfl
  f156 := Tryz.func98.trans (congrArg some (by kernel_rfl))
  f165 := Tryz.func108.trans (congrArg some (by kernel_rfl))
  f166 := Tryz.func109.trans (congrArg some (by kernel_rfl))
  f169 := Tryz.func110.trans (congrArg some (by kernel_rfl))
  f240 := Tryz.func119.trans (congrArg some (by kernel_rfl))
  f241 := Tryz.func120.trans (congrArg some (by kernel_rfl))
  f276 := Tryz.func140.trans (congrArg some (by kernel_rfl))
  f277 := Tryz.func141.trans (congrArg some (by kernel_rfl))
  t0 := Tryz.underlying0
  a0 := Tryz.isAgg0
  z0 := Tryz.sizeOf0
  v0 := Tryz.zeroValue0
  t3 := Tryz.underlying3
  a3 := Tryz.isAgg3
  z3 := Tryz.sizeOf3
  v3 := Tryz.zeroValue3
  t4 := Tryz.underlying4
  a4 := Tryz.isAgg4
  z4 := Tryz.sizeOf4
  v4 := Tryz.zeroValue4
  t9 := Tryz.underlying9
  a9 := Tryz.isAgg9
  z9 := Tryz.sizeOf9
  v9 := Tryz.zeroValue9
  t20 := Tryz.underlying20
  a20 := Tryz.isAgg20
  z20 := Tryz.sizeOf20
  v20 := Tryz.zeroValue20
  t31 := Tryz.underlying163
  a31 := Tryz.isAgg163
  z31 := Tryz.sizeOf163
  v31 := Tryz.zeroValue163
  t37 := Tryz.underlying168
  a37 := Tryz.isAgg168
  z37 := Tryz.sizeOf168
  v37 := Tryz.zeroValue168
  t70 := Tryz.underlying167
  a70 := Tryz.isAgg167
  z70 := Tryz.sizeOf167
  v70 := Tryz.zeroValue167
  t72 := Tryz.underlying170
  a72 := Tryz.isAgg170
  z72 := Tryz.sizeOf170
  v72 := Tryz.zeroValue170
  t75 := Tryz.underlying173
  a75 := Tryz.isAgg173
  z75 := Tryz.sizeOf173
  v75 := Tryz.zeroValue173
  t76 := Tryz.underlying174
  a76 := Tryz.isAgg174
  z76 := Tryz.sizeOf174
  v76 := Tryz.zeroValue174
  t127 := Tryz.underlying183
  a127 := Tryz.isAgg183
  z127 := Tryz.sizeOf183
  v127 := Tryz.zeroValue183
  t164 := Tryz.underlying204
  a164 := Tryz.isAgg204
  z164 := Tryz.sizeOf204
  v164 := Tryz.zeroValue204 }
def Tryz.itoaL_ren : Go.Shelf.Ren := ⟨fun | 171 => 100 | 243 => 112 | 246 => 125 | 283 => 121 | 284 => 122 | 285 => 123 | 286 => 124 | 129 => 139 | 317 => 142 | 318 => 143 | 319 => 144 | 320 => 145 | 337 => 156 | 338 => 157 | n => n, fun | 3 => 3 | 9 => 9 | 2 => 2 | 4 => 4 | 171 => 184 | 0 => 0 | 53 => 28 | 37 => 168 | 5 => 5 | 173 => 187 | 212 => 208 | 51 => 203 | 20 => 20 | 213 => 209 | 46 => 182 | 232 => 225 | 233 => 226 | n => n, fun | 17 => 0 | 18 => 2 | 19 => 3 | n => n⟩
theorem Tryz.itoaL : Go.Proofs.Lays.n171 Tryz.prog Tryz.itoaL_ren := {
  mixed := by kernel_rfl
  f129 := Tryz.func139.trans (congrArg some (by kernel_rfl))
  f171 := Tryz.func100.trans (congrArg some (by kernel_rfl))
  f243 := Tryz.func112.trans (congrArg some (by kernel_rfl))
  f246 := Tryz.func125.trans (congrArg some (by kernel_rfl))
  f283 := Tryz.func121.trans (congrArg some (by kernel_rfl))
  f284 := Tryz.func122.trans (congrArg some (by kernel_rfl))
  f285 := Tryz.func123.trans (congrArg some (by kernel_rfl))
  f286 := Tryz.func124.trans (congrArg some (by kernel_rfl))
  f317 := Tryz.func142.trans (congrArg some (by kernel_rfl))
  f318 := Tryz.func143.trans (congrArg some (by kernel_rfl))
  f319 := Tryz.func144.trans (congrArg some (by kernel_rfl))
  f320 := Tryz.func145.trans (congrArg some (by kernel_rfl))
  f337 := Tryz.func156.trans (congrArg some (by kernel_rfl))
  f338 := Tryz.func157.trans (congrArg some (by kernel_rfl))
  t0 := Tryz.underlying0
  a0 := Tryz.isAgg0
  z0 := Tryz.sizeOf0
  v0 := Tryz.zeroValue0
  t2 := Tryz.underlying2
  a2 := Tryz.isAgg2
  z2 := Tryz.sizeOf2
  v2 := Tryz.zeroValue2
  t3 := Tryz.underlying3
  a3 := Tryz.isAgg3
  z3 := Tryz.sizeOf3
  v3 := Tryz.zeroValue3
  t4 := Tryz.underlying4
  a4 := Tryz.isAgg4
  z4 := Tryz.sizeOf4
  v4 := Tryz.zeroValue4
  t5 := Tryz.underlying5
  a5 := Tryz.isAgg5
  z5 := Tryz.sizeOf5
  v5 := Tryz.zeroValue5
  t9 := Tryz.underlying9
  a9 := Tryz.isAgg9
  z9 := Tryz.sizeOf9
  v9 := Tryz.zeroValue9
  t20 := Tryz.underlying20
  a20 := Tryz.isAgg20
  z20 := Tryz.sizeOf20
  v20 := Tryz.zeroValue20
  t37 := Tryz.underlying168
  a37 := Tryz.isAgg168
  z37 := Tryz.sizeOf168
  v37 := Tryz.zeroValue168
  t46 := Tryz.underlying182
  a46 := Tryz.isAgg182
  z46 := Tryz.sizeOf182
  v46 := Tryz.zeroValue182
  t51 := Tryz.underlying203
  a51 := Tryz.isAgg203
  z51 := Tryz.sizeOf203
  v51 := Tryz.zeroValue203
  t53 := Tryz.underlying28
  a53 := Tryz.isAgg28
  z53 := Tryz.sizeOf28
  v53 := Tryz.zeroValue28
  t171 := Tryz.underlying184
  a171 := Tryz.isAgg184
  z171 := Tryz.sizeOf184
  v171 := Tryz.zeroValue184
  t173 := Tryz.underlying187
  a173 := Tryz.isAgg187
  z173 := Tryz.sizeOf187
  v173 := Tryz.zeroValue187
  t212 := Tryz.underlying208
  a212 := Tryz.isAgg208
  z212 := Tryz.sizeOf208
  v212 := Tryz.zeroValue208
  t213 := Tryz.underlying209
  a213 := Tryz.isAgg209
  z213 := Tryz.sizeOf209
  t232 := Tryz.underlying225
  a232 := Tryz.isAgg225
  z232 := Tryz.sizeOf225
  v232 := Tryz.zeroValue225
  t233 := Tryz.underlying226
  a233 := Tryz.isAgg226
  z233 := Tryz.sizeOf226
  v233 := Tryz.zeroValue226
  g17 := by kernel_rfl
  g18 := by kernel_rfl
  g19 := by kernel_rfl }
theorem Tryz.joinX : Builder.Extra Tryz.prog Tryz.joinL_ren where
  sizeBuilder := by kernel_rfl
  liesBuilder := by kernel_rfl
  t5 := Tryz.underlying5
  a5 := fun w => by kernel_rfl
  z5 := fun w => by kernel_rfl
  v5 := fun w => by kernel_rfl
  infoByte := by kernel_rfl
  cellsByte := by kernel_rfl
  sizeByte := by kernel_rfl
  neB5 := by decide
end Go.Proofs
namespace Go.Proofs.YtonfaojmphidpaaGreatDoor
open Go.RowKit Go.Shelf
theorem strings_Join_ (bk o c : Nat) (xs : List ByteArray) (sep : ByteArray) (w : World) (hcells : ∀ (j : Nat) x, xs[j]? = some x → w.cell? ⟨bk, o + j, none⟩ = some (.string x)) (hbk : bk < w.heap.size) (hN : xs.length ≤ 140737488355328) (hcap : xs.length ≤ c)
    (hlen : (Lib.join (xs.map (·.data.toList)) sep.data.toList).length ≤ 140737488355328) :
    Calls Tryz.prog 98 #[.slice (some ⟨bk, o, none⟩) xs.length c, .string sep] w fun e w' => e = .returned (.string ⟨(Lib.join (xs.map (·.data.toList)) sep.data.toList).toArray⟩) ∧ RowKit.Below w.heap.size w w' :=
  Any.strings_Join Tryz.joinL Tryz.joinX bk o c xs sep w hcells hbk hN hcap hlen
theorem strconv_Itoa_ (i : Nat) (hi : i < 100) (w : World) :
    Calls Tryz.prog 100 #[.int .i64 i] w fun e w' => e = .returned (.string ⟨(Lib.decDigits i).toArray⟩) ∧ w' = w := Any.strconv_Itoa_small Tryz.itoaL i hi w
end Go.Proofs.YtonfaojmphidpaaGreatDoor

/- strconv.FormatUint of 0 and 1, in base 10. -/
namespace Go.Proofs.YtonfaojmphidpaaGreatDoor
open Go.RowKit
set_option linter.unusedVariables false
set_option linter.unusedSimpArgs false
set_option maxRecDepth 100000 in
set_option maxHeartbeats 1000000 in
theorem formatUint_0 (w : World) :
    Calls Tryz.prog 99 #[.int .u64 0, .int .i64 10] w fun e w' => e = .returned (.string ⟨#[48]⟩) ∧ w = w' := by
  go_enter Tryz.func99, Tryz.ntmps99
  go_wp2_with go_in
  go_ret
  exact ⟨rfl, rfl⟩
set_option maxRecDepth 100000 in
set_option maxHeartbeats 1000000 in
theorem formatUint_1 (w : World) :
    Calls Tryz.prog 99 #[.int .u64 1, .int .i64 10] w fun e w' => e = .returned (.string ⟨#[49]⟩) ∧ w = w' := by
  go_enter Tryz.func99, Tryz.ntmps99
  go_wp2_with go_in
  go_ret
  exact ⟨rfl, rfl⟩
end Go.Proofs.YtonfaojmphidpaaGreatDoor

/- append, at the operation: onto a row of the call's own; onto whatever has no room left. -/
namespace Go.Proofs.YtonfaojmphidpaaGreatDoor
open Go.RowKit
set_option linter.unusedVariables false

/-- The slice at a, of n elements of so many cells each, reads as the cells cs. -/
def Rd (size : Nat) (w : World) (a : Option Addr) (n cap : Nat) (cs : List Value) : Prop :=
  cs.length = n * size ∧ n ≤ cap ∧ (a = none → cap = 0) ∧ (0 < n → ∃ b off, a = some ⟨b, off, none⟩ ∧ b < w.heap.size ∧ ∀ i v, cs[i]? = some v → w.cell? ⟨b, off + i, none⟩ = some v)
section
variable {size n cap : Nat} {w w' : World} {a : Option Addr} {cs : List Value}
theorem Rd.below (h : Rd size w a n cap cs) (hb : Below w.heap.size w w') : Rd size w' a n cap cs :=
  ⟨h.1, h.2.1, h.2.2.1, fun h0 => by
    obtain ⟨b, off, ha, hlt, hc⟩ := h.2.2.2 h0
    exact ⟨b, off, ha, Nat.lt_of_lt_of_le hlt hb.size, fun i v hi => (hb.cell (p := ⟨b, off + i, none⟩) hlt).trans (hc i v hi)⟩⟩
theorem Rd.alloc (h : Rd size w a n cap cs) (o : Obj) : Rd size (w.alloc o) a n cap cs := h.below ((Below.refl _ _).alloc (Nat.le_refl _) o)
theorem Rd.drewN (h : Rd size w a n cap cs) (k : Nat) : Rd size (w.drewN k) a n cap cs := h
theorem Rd.nil_ (size : Nat) (w : World) : Rd size w none 0 0 [] := ⟨by simp, Nat.le_refl _, fun _ => rfl, fun h => absurd h (by omega)⟩
/-- What is not touched stays. -/
theorem Rd.keep (h : Rd size w a n cap cs) (hsz : w.heap.size ≤ w'.heap.size) {r : Nat} (hk : ∀ k, k < w.heap.size → k ≠ r → w'.heap[k]? = w.heap[k]?) (hr : ∀ p, a = some p → p.block ≠ r) : Rd size w' a n cap cs :=
  ⟨h.1, h.2.1, h.2.2.1, fun h0 => by
    obtain ⟨b, off, ha, hlt, hc⟩ := h.2.2.2 h0
    exact ⟨b, off, ha, Nat.lt_of_lt_of_le hlt hsz, fun i v hi => (World.cell?_of_block (w := w) (a := ⟨b, off + i, none⟩) (hk b hlt (hr _ ha))).trans (hc i v hi)⟩⟩
theorem Rd.far (h : Rd size w a n cap cs) {p : Addr} (hp : ∀ q, a = some q → q.block ≠ p.block) (u : Value) : Rd size (w.setCell p u) a n cap cs :=
  h.keep (by rw [size_setCell]; exact Nat.le_refl _) (r := p.block) (fun k _ hk => Below.heap_setCell w p u k hk) hp
theorem Rd.of_own {base : Nat} {e : TypeId} {v : Value} (h : w.ownsRow base e size v n cs) : ∃ a cap, v = .slice a n cap ∧ Rd size w a n cap cs := by
  obtain ⟨hl, hv⟩ := h
  rcases hv with ⟨rfl, rfl⟩ | ⟨g, c, cur, rfl, _, hg, hn, _, hs, ht⟩
  · exact ⟨none, 0, rfl, hl, Nat.le_refl _, fun _ => rfl, fun h => absurd h (by omega)⟩
  · refine ⟨_, c, rfl, hl, hn, (fun h => by cases h), fun _ => ⟨g, 0, rfl, (Array.getElem?_eq_some_iff.1 hg).1, fun i v hi => ?_⟩⟩
    rw [cell_of_row w g (0 + i) cur e (0, 0) hg, Nat.zero_add]
    rw [← ht, List.getElem?_take] at hi
    split at hi
    · simpa using hi
    · cases hi
end

theorem own_slice {w : World} {base n : Nat} {e : TypeId} {size : Nat} {v : Value} {xs : List Value} (h : w.ownsRow base e size v n xs) : ∃ A c, v = .slice A n c := by
  rcases h.2 with ⟨rfl, rfl⟩ | ⟨g, cap, cur, rfl, _⟩
  · exact ⟨none, 0, rfl⟩
  · exact ⟨_, cap, rfl⟩
theorem own_base {w : World} {base : Nat} {e : TypeId} {size n : Nat} {v : Value} {xs : List Value} (h : w.ownsRow base e size v n xs) (k : Nat) (hk : v.ownBlock = some k) : base ≤ k := (h.lt k hk).1
theorem own_below {w w1 : World} {base : Nat} {e : TypeId} {size n : Nat} {v : Value} {xs : List Value} (h : w.ownsRow base e size v n xs) (hb : Below w.heap.size w w1) : w1.ownsRow base e size v n xs :=
  h.kept (row := none) ⟨hb.os, hb.tape, hb.output, hb.size, fun i hi _ => hb.block i hi⟩ (by cases v.ownBlock <;> simp)
theorem own_addr {w : World} {base n c : Nat} {e : TypeId} {size : Nat} {q : Addr} {xs : List Value} (h : w.ownsRow base e size (.slice (some q) n c) n xs) : base ≤ q.block ∧ q.block < w.heap.size := h.lt q.block rfl
theorem own_rd {w : World} {base n c : Nat} {e : TypeId} {size : Nat} {A : Option Addr} {xs : List Value} (h : w.ownsRow base e size (.slice A n c) n xs) : Rd size w A n c xs := by
  obtain ⟨a', c', hv, hr⟩ := Rd.of_own h
  simp only [Value.slice.injEq] at hv
  obtain ⟨rfl, _, rfl⟩ := hv
  exact hr
theorem own_mono {w : World} {B B' : Nat} {e : TypeId} {size n : Nat} {v : Value} {xs : List Value} (h : w.ownsRow B e size v n xs) (hB : B' ≤ B) : w.ownsRow B' e size v n xs :=
  ⟨h.1, h.2.imp id fun ⟨g, cap, cur, hv, hb, r⟩ => ⟨g, cap, cur, hv, Nat.le_trans hB hb, r⟩⟩
theorem own_drewN {w : World} {base : Nat} {e : TypeId} {size n : Nat} {v : Value} {xs : List Value} (h : w.ownsRow base e size v n xs) (k : Nat) : (w.drewN k).ownsRow base e size v n xs := h

/-- Where a slice lies that a call hands back: where the old one lay, or in a new block. -/
def Loc (B : Nat) (a a' : Option Addr) : Prop := a' = a ∨ ∀ q, a' = some q → B ≤ q.block
section
variable {P : Program} {ops : Array Oper} {rest : List Oper} {o : Oper} {a : Act} {Q : Exit → Act → World → Prop}

theorem run_app_own (w : World) (base : Nat) (t ty e : TypeId) (z : Value) (size bytes : Nat) (ht : P.underlying t = some (.slice e))
    (hinfo : (P.info? e).map (fun i => (i.zero, i.size, i.bytes)) = some (some z, size, bytes)) (hz : z.cells.size = size) (hs0 : 0 < size)
    (v : Value) (n : Nat) (olds : List Value) (HO : w.ownsRow base e size v n olds)
    (A : Option Addr) (m c : Nat) (news : List Value) (HR : Rd size w A m c news) (h1 : ∀ u ∈ news, u.oneCell' = true)
    (h63 : n + m ≤ 9223372036854775807) (hl : (n + m) * bytes ≤ 140737488355328) (hbase : base ≤ w.heap.size) :
    ∃ A1 c1 w1, (Builtin.append_ #[t, t] ty #[v, .slice A m c]).run P w = .ok (.slice A1 (n + m) c1) w1 ∧ w1.ownsRow base e size (.slice A1 (n + m) c1) (n + m) (olds ++ news) ∧ w.grownBy w1 v.ownBlock ∧
      ((Value.slice A1 (n + m) c1).ownBlock = v.ownBlock ∨ (Value.slice A1 (n + m) c1).ownBlock = some w.heap.size) := by
  obtain ⟨i0, hi, hzz⟩ := Option.map_eq_some_iff.1 hinfo
  simp only [Prod.mk.injEq] at hzz
  obtain ⟨hz0, hz1, hz2⟩ := hzz
  have hm : n + m ≤ maxLen := by unfold maxLen; omega
  by_cases h0 : A = none
  · subst h0
    obtain ⟨hnl, hmc, hcap, _⟩ := HR
    have := hcap rfl
    obtain rfl : m = 0 := by omega
    have hn : news = [] := List.eq_nil_of_length_eq_zero (by simpa using hnl)
    subst hn
    obtain ⟨A1, c1, rfl⟩ := own_slice HO
    refine ⟨A1, c1, w, ?_, by simpa using HO, World.grownBy.refl w _, .inl rfl⟩
    rcases HO.2 with ⟨hv, hn0⟩ | ⟨g, cp, cur, hv, _, _, hnc, _⟩
    · simp only [Value.slice.injEq] at hv
      obtain ⟨rfl, rfl, rfl⟩ := hv
      simp [Builtin.append_, run_underlying ht, sizeOf, typeInfo, hi, Builtin.lenOf, Builtin.firstCells]
    · simp only [Value.slice.injEq] at hv
      obtain ⟨rfl, _, rfl⟩ := hv
      simp [Builtin.append_, run_underlying ht, sizeOf, typeInfo, hi, Builtin.lenOf, Builtin.firstCells, hnc, storeCells]
  · obtain ⟨ad, rfl⟩ := Option.ne_none_iff_exists'.1 h0
    have hcells : ∀ j u, news[j]? = some u → w.cell? (ad.add j) = some u := by
      intro j u hu
      rcases Nat.eq_zero_or_pos m with hm0 | hm0
      · have : news = [] := List.eq_nil_of_length_eq_zero (by rw [HR.1, hm0]; simp)
        subst this; simp at hu
      · obtain ⟨b, off, hb, _, hc⟩ := HR.2.2.2 hm0
        injection hb with hb
        subst hb
        have ha : (⟨b, off, none⟩ : Addr).add j = ⟨b, off + j, none⟩ := by
          unfold Addr.add; split
          · rename_i h; subst h; rfl
          · rfl
        rw [ha]; exact hc j u hu
    obtain ⟨v', w', hrun, h2, h3, _, h5⟩ := run_append_own_at (P := P) w base t ty e i0 z size bytes ht hi hz0 hz1 hz2 hz hs0 v n olds HO ad m c news HR.1 hcells h1 hm hl hbase
    obtain ⟨A1, c1, rfl⟩ := own_slice h2
    exact ⟨A1, c1, w', hrun, h2, h3, h5⟩

/-- append(v, xs...): v a row of the call's own (nil or not), xs whatever reads. -/
theorem app_own (w : World) (hgd : o.guard = none) (s x : Operand) (t : TypeId) (ho : o.op = .call { callee := .builtin .append, args := #[s, x], argTypes := #[t, t] })
    (base : Nat) (e : TypeId) (z : Value) (size bytes : Nat) (ht : P.underlying t = some (.slice e))
    (hinfo : (P.info? e).map (fun i => (i.zero, i.size, i.bytes)) = some (some z, size, bytes)) (hz : z.cells.size = size) (hs0 : 0 < size)
    (v : Value) (n : Nat) (olds : List Value) (hs : a.eval s = v) (HO : w.ownsRow base e size v n olds)
    (A : Option Addr) (m c : Nat) (news : List Value) (hx : a.eval x = .slice A m c) (HR : Rd size w A m c news) (h1 : ∀ u ∈ news, u.oneCell' = true)
    (h63 : n + m ≤ 9223372036854775807) (hl : (n + m) * bytes ≤ 140737488355328) (hbase : base ≤ w.heap.size)
    (h : ∀ A1 c1 w1, w1.ownsRow base e size (.slice A1 (n + m) c1) (n + m) (olds ++ news) → w.grownBy w1 v.ownBlock →
      ((Value.slice A1 (n + m) c1).ownBlock = v.ownBlock ∨ (Value.slice A1 (n + m) c1).ownBlock = some w.heap.size) → wpList P ops Q rest (a.put o.dst (.slice A1 (n + m) c1)) w1) : wpList P ops Q (o :: rest) a w := by
  refine wpList_plain hgd fun K hK => ?_
  obtain ⟨A1, c1, w1, hrun, h2, h3, h4⟩ := run_app_own (P := P) w base t o.type e z size bytes ht hinfo hz hs0 v n olds HO A m c news HR h1 h63 hl hbase
  unfold Oper.wp execOp
  simp only [ho, resolve, invoke, builtin, Sem.run_bind, Sem.run_pure, Result.andThen_ok, List.map_toArray, List.map_cons, List.map_nil, hs, hx, hrun]
  exact hK _ _ (h A1 c1 w1 h2 h3 h4)

/-- append(v, y) of one element of one cell, v a row of the call's own. The element lies boxed in a new block. -/
theorem app_one (w : World) (hgd : o.guard = none) (s x : Operand) (t : TypeId) (ho : o.op = .call { callee := .builtin .append, args := #[s, x], argTypes := #[t, t] })
    (base : Nat) (e : TypeId) (z : Value) (size bytes : Nat) (ht : P.underlying t = some (.slice e))
    (hinfo : (P.info? e).map (fun i => (i.zero, i.size, i.bytes)) = some (some z, size, bytes)) (hz : z.cells.size = size) (hs0 : 0 < size)
    (v : Value) (n : Nat) (olds : List Value) (hs : a.eval s = v) (HO : w.ownsRow base e size v n olds)
    (ys : List Value) (hy : ys.length = size) (hx : a.eval x = .slice (some ⟨w.heap.size, 0, none⟩) 1 1) (h1 : ∀ u ∈ ys, u.oneCell' = true)
    (h63 : n + 1 ≤ 9223372036854775807) (hl : (n + 1) * bytes ≤ 140737488355328) (hbase : base ≤ w.heap.size)
    (h : ∀ A1 c1 w1, w1.ownsRow base e size (.slice A1 (n + 1) c1) (n + 1) (olds ++ ys) → w.grownBy w1 v.ownBlock →
      ((Value.slice A1 (n + 1) c1).ownBlock = v.ownBlock ∨ ∃ b, (Value.slice A1 (n + 1) c1).ownBlock = some b ∧ w.heap.size ≤ b) → wpList P ops Q rest (a.put o.dst (.slice A1 (n + 1) c1)) w1) :
    wpList P ops Q (o :: rest) a (w.alloc (.cells ys.toArray e)) := by
  have HR : Rd size (w.alloc (.cells ys.toArray e)) (some ⟨w.heap.size, 0, none⟩) 1 1 ys :=
    ⟨by simp [hy], Nat.le_refl _, (fun h => by cases h), fun _ => ⟨w.heap.size, 0, rfl, by simp, fun i v hi => by
      have := (Blk.new w e ys.toArray).cell (0 + i)
      rw [this, Nat.zero_add]; simpa using hi⟩⟩
  refine app_own (w.alloc _) hgd s x t ho base e z size bytes ht hinfo hz hs0 v n olds hs (HO.alloc _) _ 1 1 ys hx HR h1 h63 hl (by simp; omega) fun A1 c1 w1 h2 h3 h4 => h A1 c1 w1 h2 (World.grownBy.trans (World.grownBy_alloc w _ _) h3) ?_
  rcases h4 with h4 | h4
  · exact .inl h4
  · exact .inr ⟨_, h4, by simp⟩

/-- append(s, y) of one element, where s has no room left: a new row. -/
theorem app_grow_one (w : World) (hgd : o.guard = none) (s x : Operand) (t : TypeId) (ho : o.op = .call { callee := .builtin .append, args := #[s, x], argTypes := #[t, t] })
    (e : TypeId) (z : Value) (size bytes : Nat) (ht : P.underlying t = some (.slice e))
    (hinfo : (P.info? e).map (fun i => (i.zero, i.size, i.bytes)) = some (some z, size, bytes)) (hz : z.cells.size = size) (hs0 : 0 < size)
    (A : Option Addr) (n : Nat) (olds : List Value) (hs : a.eval s = .slice A n n) (HR : Rd size w A n n olds)
    (ys : List Value) (hy : ys.length = size) (hx : a.eval x = .slice (some ⟨w.heap.size, 0, none⟩) 1 1) (h1 : ∀ u ∈ ys, u.oneCell' = true)
    (h63 : n + 1 ≤ 9223372036854775807) (hl : (n + 1) * bytes ≤ 140737488355328)
    (h : ∀ A1 c1 w1, w1.ownsRow w.heap.size e size (.slice A1 (n + 1) c1) (n + 1) (olds ++ ys) → Below w.heap.size w w1 → wpList P ops Q rest (a.put o.dst (.slice A1 (n + 1) c1)) w1) :
    wpList P ops Q (o :: rest) a (w.alloc (.cells ys.toArray e)) := by
  obtain ⟨i0, hi, hzz⟩ := Option.map_eq_some_iff.1 hinfo
  simp only [Prod.mk.injEq] at hzz
  obtain ⟨hz0, hz1, hz2⟩ := hzz
  have hcells : ∀ j u, ys[j]? = some u → (w.alloc (.cells ys.toArray e)).cell? ((⟨w.heap.size, 0, none⟩ : Addr).add j) = some u := by
    intro j u hu
    have ha : (⟨w.heap.size, 0, none⟩ : Addr).add j = ⟨w.heap.size, j, none⟩ := by unfold Addr.add; split <;> simp_all
    rw [ha, (Blk.new w e ys.toArray).cell j]; simpa using hu
  have holds : ∀ b, A = some b → ∀ j u, olds[j]? = some u → (w.alloc (.cells ys.toArray e)).cell? (b.add j) = some u := by
    intro b hb j u hu
    have hn : 0 < n := by
      rcases Nat.eq_zero_or_pos n with h0 | h0
      · have : olds = [] := List.eq_nil_of_length_eq_zero (by rw [HR.1, h0]; simp)
        subst this; simp at hu
      · exact h0
    obtain ⟨b', off, hb', _, hc⟩ := (HR.alloc (.cells ys.toArray e)).2.2.2 hn
    rw [hb] at hb'
    injection hb' with hb'
    subst hb'
    have ha : (⟨b', off, none⟩ : Addr).add j = ⟨b', off + j, none⟩ := by
      unfold Addr.add; split
      · rename_i h; subst h; rfl
      · rfl
    rw [ha]; exact hc j u hu
  refine wpList_append_grows (w.alloc _) hgd s x t ho e i0 z size bytes ht hi hz0 hz1 hz2 hz hs0 A n n olds hs (fun hn => by have := HR.2.2.1 hn; omega) HR.1 holds _ 1 1 ys hx (by simp [hy]) hcells h1 (by omega) (by unfold maxLen; omega) hl
    fun v' w' h2 h3 => ?_
  obtain ⟨A1, c1, rfl⟩ := own_slice h2
  refine h A1 c1 w' ?_ ?_
  · refine ⟨h2.1, ?_⟩
    rcases h2.2 with h4 | ⟨g, cp, cur, hv, hb, r⟩
    · exact .inl h4
    · exact .inr ⟨g, cp, cur, hv, by simp at hb; omega, r⟩
  · exact ((Below.refl _ w).alloc (Nat.le_refl _) _).grown h3 (by simp) (fun k hk => by cases hk)
end
end Go.Proofs.YtonfaojmphidpaaGreatDoor

/- Small facts on whole numbers, bits and wraps: no program in sight. -/
namespace Go.Proofs.YtonfaojmphidpaaGreatDoor
open Go.RowKit

theorem and3 (a : Int) (h0 : 0 ≤ a) (h1 : a < 18446744073709551616) : bits .and .u64 a 3 = a % 4 := by
  rw [u64_and a 3 h0 h1 (by omega) (by omega)]
  have : a.toNat &&& (3 : Int).toNat = a.toNat % 4 := Nat.and_two_pow_sub_one_eq_mod a.toNat 2
  rw [this]; omega

theorem wrap64_id (a : Int) (h0 : -9223372036854775808 ≤ a) (h1 : a ≤ 9223372036854775807) : wrap64 a = a := IntWalk.wrap64_in a ⟨h0, h1⟩

theorem u64_wrap (a : Int) : IntKind.u64.wrap a = a % 18446744073709551616 := by
  simp [IntKind.wrap, IntKind.signed, IntKind.bits]

theorem or4 (v b : Int) (h2 : 0 ≤ b) (h3 : b < 4) :
    bits .or .u64 (IntKind.u64.wrap (v * 4)) b = 4 * (v % 4611686018427387904) + b := by
  rw [u64_wrap]
  have e : v * 4 % 18446744073709551616 = 4 * (v % 4611686018427387904) := by omega
  rw [e, u64_or _ b (by omega) (by omega) h2 (by omega)]
  have : (4 * (v % 4611686018427387904)).toNat = (v % 4611686018427387904).toNat <<< 2 := by
    rw [Nat.shiftLeft_eq]; omega
  rw [this, ← Nat.shiftLeft_add_eq_or_of_lt (by omega : b.toNat < 2 ^ 2), Nat.shiftLeft_eq]
  omega

theorem tmod_pos_cases (a n : Int) (hn : 0 < n) : a.tmod n = a % n ∨ (a.tmod n = a % n - n ∧ a % n ≠ 0) := by
  rw [Int.tmod_eq_emod]
  split
  · left; omega
  · rename_i h
    right
    refine ⟨by omega, fun h0 => h (.inr (Int.dvd_of_emod_eq_zero h0))⟩
end Go.Proofs.YtonfaojmphidpaaGreatDoor

/- A slice of whole numbers that reads as a list; the library's functions on such slices. -/
namespace Go.Proofs.YtonfaojmphidpaaGreatDoor
open Go.RowKit
set_option linter.unusedVariables false

def nums (k : IntKind) (xs : List Int) : List Value := xs.map fun x => .int k x
theorem nums_length (k : IntKind) (xs : List Int) : (nums k xs).length = xs.length := by simp [nums]
theorem nums_get {k : IntKind} {xs : List Int} {i : Nat} (h : i < xs.length) : (nums k xs)[i]? = some (.int k (xs.getD i 0)) := by
  simp [nums, List.getD_eq_getElem?_getD, h]
/-- The slice at a, of xs.length numbers, reads as xs. -/
def Sl (k : IntKind) (w : World) (a : Option Addr) (cap : Nat) (xs : List Int) : Prop := Rd 1 w a xs.length cap (nums k xs)
theorem Sl.at_ {k : IntKind} {w : World} {a : Option Addr} {cap : Nat} {xs : List Int} (h : Sl k w a cap xs) (h0 : 0 < xs.length) :
    ∃ b off, a = some ⟨b, off, none⟩ ∧ b < w.heap.size ∧ ∀ i, i < xs.length → w.cell? ⟨b, off + i, none⟩ = some (.int k (xs.getD i 0)) := by
  obtain ⟨b, off, ha, hb, hc⟩ := h.2.2.2 h0
  exact ⟨b, off, ha, hb, fun i hi => hc i _ (nums_get hi)⟩
theorem Sl.le {k : IntKind} {w : World} {a : Option Addr} {cap : Nat} {xs : List Int} (h : Sl k w a cap xs) : xs.length ≤ cap := h.2.1
theorem Sl.below {k : IntKind} {w w' : World} {a : Option Addr} {cap : Nat} {xs : List Int} (h : Sl k w a cap xs) (hb : Below w.heap.size w w') : Sl k w' a cap xs := Rd.below h hb
theorem Sl.clip {k : IntKind} {w : World} {a : Option Addr} {cap : Nat} {xs : List Int} (h : Sl k w a cap xs) : Rd 1 w a xs.length xs.length (nums k xs) :=
  ⟨h.1, Nat.le_refl _, fun ha => by have := h.2.2.1 ha; have := h.2.1; omega, h.2.2.2⟩
theorem Sl.of_own {k : IntKind} {w : World} {base : Nat} {e : TypeId} {v : Value} {xs : List Int} (h : w.ownsRow base e 1 v xs.length (nums k xs)) : ∃ a cap, v = .slice a xs.length cap ∧ Sl k w a cap xs := Rd.of_own h
theorem bcell {W w1 : World} (hb : Below W.heap.size W w1) : (∀ b o, b < W.heap.size → w1.cell? ⟨b, o, none⟩ = W.cell? ⟨b, o, none⟩) ∧ (∀ b o, b < W.heap.size → w1.frozen? ⟨b, o, none⟩ = W.frozen? ⟨b, o, none⟩) :=
  ⟨fun b o h => hb.cell (p := ⟨b, o, none⟩) h, fun b o h => hb.frozen (p := ⟨b, o, none⟩) h⟩
theorem below_drewN {B : Nat} {w W : World} (h : Below B w W) (n : Nat) : Below B w (W.drewN n) := ⟨h.os, h.tape, h.output, h.size, h.block⟩

theorem ret_int {k : IntKind} {a b : Int} (h : a = b) : Ending.returned (.int k a) = .returned (.int k b) := by rw [h]
theorem ret_bool {a b : Bool} (h : a = b) : Ending.returned (.bool a) = .returned (.bool b) := by rw [h]

/-- The first place of n in xs, or -1. -/
def idxI (xs : List Int) (n : Int) : Int := match xs.findIdx? (· == n) with | some i => i | none => -1
theorem idxI_found {xs : List Int} {n : Int} {i : Nat} (hi : i < xs.length) (h : xs.getD i 0 = n) (hb : ∀ j, j < i → xs.getD j 0 ≠ n) : idxI xs n = i := by
  have : xs.findIdx? (· == n) = some i := by
    rw [List.findIdx?_eq_some_iff_getElem]
    refine ⟨hi, by simpa [List.getD_eq_getElem?_getD, hi] using h, fun j hj => ?_⟩
    have hjl : j < xs.length := by omega
    have := hb j hj
    simpa [List.getD_eq_getElem?_getD, hjl] using this
  unfold idxI; rw [this]
theorem idxI_none {xs : List Int} {n : Int} (hb : ∀ j, j < xs.length → xs.getD j 0 ≠ n) : idxI xs n = -1 := by
  have : xs.findIdx? (· == n) = none := by
    rw [List.findIdx?_eq_none_iff]
    intro x hx
    obtain ⟨j, hj, rfl⟩ := List.mem_iff_getElem.1 hx
    have := hb j hj
    simpa [List.getD_eq_getElem?_getD, hj] using this
  unfold idxI; rw [this]

set_option maxHeartbeats 400000 in
theorem slices_Index_u64 (a : Option Addr) (cap : Nat) (xs : List Int) (n : Int) (w : World) (h : Sl .u64 w a cap xs) (hl : xs.length ≤ 4611686018427387904) :
    Calls Tryz.prog 217 #[.slice a xs.length cap, .int .u64 n] w fun e w' => e = .returned (.int .i64 (idxI xs n)) ∧ w = w' := by
  go_enter Tryz.func217, Tryz.ntmps217
  go_wp2
  go_loop [8] (fun i => ∃ k : Nat, k ≤ xs.length ∧ i = .int .i64 k ∧ ∀ j, j < k → xs.getD j 0 ≠ n) (fun i => xs.length - (intOf i).toNat)
  case atStart => exact ⟨0, by omega, rfl, fun j hj => absurd hj (by omega)⟩
  case round =>
    obtain ⟨k, hk, rfl, hno⟩ := hrel
    have HN := Lib.hid hno; clear hno
    by_cases hlt : k < xs.length
    · obtain ⟨b, off, rfl, hbs, hc⟩ := h.at_ (by omega)
      have c0 := hc k hlt
      clear hc
      by_cases hx : xs.getD k 0 = n
      · rw [hx] at c0
        have HX := Lib.hid hx; clear hx
        go_wp2
        go_ret
        exact ⟨ret_int (idxI_found hlt HX.out HN.out).symm, rfl⟩
      · have hx' : (n == xs.getD k 0) = false := by simpa using fun h => hx h.symm
        have HX := Lib.hid hx; clear hx
        generalize hxx : xs.getD k 0 = x at c0 hx'
        have HXX := Lib.hid hxx; clear hxx
        go_wp2
        go_round
        case rel => exact ⟨k + 1, by omega, by go_num, fun j hj => by
          by_cases e : j = k
          · subst e; exact HX.out
          · exact HN.out j (by omega)⟩
        case measure => simp [intOf]; omega
    · go_wp2
      go_ret
      exact ⟨ret_int (idxI_none fun j hj => HN.out j (by omega)).symm, rfl⟩

theorem list_ext_getD {xs ys : List Int} (hl : xs.length = ys.length) (h : ∀ i, i < xs.length → xs.getD i 0 = ys.getD i 0) : xs = ys := by
  apply List.ext_getElem hl
  intro i h1 h2
  have := h i h1
  simpa [List.getD_eq_getElem?_getD, h1, h2] using this
theorem Sl.drewN {k : IntKind} {w : World} {a : Option Addr} {cap : Nat} {xs : List Int} (h : Sl k w a cap xs) (n : Nat) : Sl k (w.drewN n) a cap xs := h

set_option maxHeartbeats 400000 in
theorem slices_Equal_u64 (a a' : Option Addr) (cap cap' : Nat) (xs ys : List Int) (w : World) (h : Sl .u64 w a cap xs) (h' : Sl .u64 w a' cap' ys) (hl : xs.length ≤ 4611686018427387904) (hl' : ys.length ≤ 4611686018427387904) :
    Calls Tryz.prog 52 #[.slice a xs.length cap, .slice a' ys.length cap'] w fun e w' => e = .returned (.bool (xs == ys)) ∧ ∃ q, w' = w.drewN q := by
  by_cases hlen : xs.length = ys.length
  · go_enter Tryz.func52, Tryz.ntmps52
    have hne : ((xs.length : Int) != (ys.length : Int)) = false := by simp [hlen]
    have HL := Lib.hid hlen; clear hlen
    go_wp2
    go_loopw [13] (fun i wr => ∃ k : Nat, k ≤ xs.length ∧ i = .int .i64 k ∧ (∀ j, j < k → xs.getD j 0 = ys.getD j 0) ∧ ∃ q, wr = w.drewN q) (fun i _ => xs.length - (intOf i).toNat)
    case atStart => exact ⟨0, by omega, rfl, fun j hj => absurd hj (by omega), 0, rfl⟩
    case round =>
      obtain ⟨k, hk, rfl, hno, q, rfl⟩ := hrel
      have HN := Lib.hid hno; clear hno
      by_cases hlt : k < xs.length
      · have hlt' : k < ys.length := by rw [← HL.out]; exact hlt
        obtain ⟨b, off, rfl, hbs, hc⟩ := h.at_ (by omega)
        obtain ⟨b', off', rfl, hbs', hc'⟩ := h'.at_ (by omega)
        have c0 := hc k hlt
        have c0' := hc' k hlt'
        clear hc hc'
        have e1 : (0 : Int) ≤ (k : Int) := by omega
        have e2 : (k : Int) < (xs.length : Int) := by omega
        have e3 : (k : Int) < (ys.length : Int) := by omega
        by_cases hx : xs.getD k 0 = ys.getD k 0
        · have hx' : (xs.getD k 0 != ys.getD k 0) = false := by simpa using hx
          have HX := Lib.hid hx; clear hx
          generalize hxx : xs.getD k 0 = x at c0 hx'
          generalize hyy : ys.getD k 0 = y at c0' hx'
          have HXX := Lib.hid hxx; clear hxx
          have HYY := Lib.hid hyy; clear hyy
          go_wp2
          go_quiet (fail)
          go_wp2
          go_roundw
          case rel => exact ⟨k + 1, by omega, by go_num, fun j hj => by
            by_cases e : j = k
            · subst e; exact HX.out
            · exact HN.out j (by omega), _, rfl⟩
          case measure => simp [intOf]; omega
        · have hx' : (xs.getD k 0 != ys.getD k 0) = true := by simpa using hx
          have HX := Lib.hid hx; clear hx
          generalize hxx : xs.getD k 0 = x at c0 hx'
          generalize hyy : ys.getD k 0 = y at c0' hx'
          have HXX := Lib.hid hxx; clear hxx
          have HYY := Lib.hid hyy; clear hyy
          go_wp2
          go_quiet (fail)
          go_wp2
          go_ret
          exact ⟨ret_bool (by
            symm
            rw [beq_eq_false_iff_ne]
            intro e; subst e; exact HX.out rfl), _, World.drewN_drewN _ _ _⟩
      · go_wp2
        go_ret
        have : xs = ys := list_ext_getD HL.out fun i hi => HN.out i (by omega)
        exact ⟨ret_bool (by rw [this]; simp), q, rfl⟩
  · go_enter Tryz.func52, Tryz.ntmps52
    have hne : ((xs.length : Int) != (ys.length : Int)) = true := by simp; omega
    go_wp2
    go_ret
    exact ⟨ret_bool (by
      symm
      rw [beq_eq_false_iff_ne]
      intro e; subst e; exact hlen rfl), 0, rfl⟩
end Go.Proofs.YtonfaojmphidpaaGreatDoor

/- slices.Delete of one element, on a row of the call's own. -/
namespace Go.Proofs.YtonfaojmphidpaaGreatDoor
open Go.RowKit
set_option linter.unusedVariables false

/-- Some cells are set, from o on. -/
def setAll (cs : Array Value) : Nat → List Value → Array Value
  | _, [] => cs
  | o, v :: r => setAll (cs.setIfInBounds o v) (o + 1) r
theorem size_setAll : ∀ (vs : List Value) (cs : Array Value) (o : Nat), (setAll cs o vs).size = cs.size
  | [], _, _ => rfl
  | v :: r, cs, o => by rw [setAll, size_setAll r]; simp
theorem setAll_lt : ∀ (vs : List Value) (cs : Array Value) (o j : Nat), j < o → (setAll cs o vs)[j]? = cs[j]?
  | [], _, _, _, _ => rfl
  | v :: r, cs, o, j, h => by
    rw [setAll, setAll_lt r _ _ _ (by omega), Array.getElem?_setIfInBounds_ne (by omega)]
theorem setAll_in : ∀ (vs : List Value) (cs : Array Value) (o j : Nat), o + vs.length ≤ cs.size → j < vs.length → (setAll cs o vs)[o + j]? = vs[j]?
  | v :: r, cs, o, 0, h, _ => by
    have : o < cs.size := by simp at h; omega
    rw [setAll, setAll_lt r _ _ _ (by omega), Nat.add_zero, Array.getElem?_setIfInBounds_self]
    simp [this]
  | v :: r, cs, o, j + 1, h, hj => by
    rw [setAll, show o + (j + 1) = o + 1 + j by omega, setAll_in r _ _ _ (by simp at h ⊢; omega) (by simpa using hj)]
    simp
theorem Blk.putAll {w : World} {g : Nat} {t : TypeId} : ∀ (vs : List Value) (o : Nat) (w : World) (cs : Array Value), Blk w g t cs → Blk (w.setCells g o vs) g t (setAll cs o vs)
  | [], _, _, _, h => h
  | v :: r, o, w, cs, h => by
    rw [World.setCells, setAll]
    exact Blk.putAll (w := w) r (o + 1) _ _ (h.put o v)
theorem grown_setCells (w : World) (g o : Nat) (vs : List Value) (hg : g < w.heap.size) : w.grownBy (w.setCells g o vs) (some g) := by
  have hs : ∀ (vs : List Value) (o : Nat) (w : World), (w.setCells g o vs).heap.size = w.heap.size ∧ (w.setCells g o vs).tape = w.tape := by
    intro vs
    induction vs with
    | nil => intro o w; exact ⟨rfl, rfl⟩
    | cons v r ih => intro o w; rw [World.setCells]; exact ⟨(ih _ _).1.trans (size_setCell _ _ _), (ih _ _).2⟩
  exact ⟨World.os_setCells w g o vs, (hs vs o w).2, World.output_setCells w g o vs, by rw [(hs vs o w).1]; exact Nat.le_refl _, fun k hk hne => World.heap_setCells_other w g o vs hk (fun e => hne (by rw [e]))⟩

def movedI (xs : List Int) (i : Nat) : List Value := (xs.drop (i + 1)).map (Value.int .u64)
theorem eraseIdx_lo {xs : List Int} {i j : Nat} (h : j < i) : (xs.eraseIdx i).getD j 0 = xs.getD j 0 := by
  simp [List.getD_eq_getElem?_getD, List.getElem?_eraseIdx, h]
theorem eraseIdx_hi {xs : List Int} {i j : Nat} (h : i ≤ j) : (xs.eraseIdx i).getD j 0 = xs.getD (j + 1) 0 := by
  simp [List.getD_eq_getElem?_getD, List.getElem?_eraseIdx, Nat.not_lt.2 h]

theorem Tryz.infoU : (Tryz.prog.info? 28).map (fun i => (i.zero, i.size, i.bytes)) = some (some (.int .u64 0), 1, 8) := by kernel_rfl
theorem Tryz.zeroU (w : World) : (zeroValue 28).run Tryz.prog w = .ok (.int .u64 0) w := by kernel_rfl

end Go.Proofs.YtonfaojmphidpaaGreatDoor

/- slices.Clone and slices.Clip. -/
namespace Go.Proofs.YtonfaojmphidpaaGreatDoor
open Go.RowKit
set_option linter.unusedVariables false
set_option linter.unusedSimpArgs false

theorem nums_one (k : IntKind) (xs : List Int) : ∀ u ∈ nums k xs, u.oneCell' = true := by
  intro u hu
  obtain ⟨x, _, rfl⟩ := List.mem_map.1 hu
  rfl

set_option maxHeartbeats 400000 in
theorem slices_Clone_u64 (a : Option Addr) (cap : Nat) (xs : List Int) (w : World) (h : Sl .u64 w a cap xs) (hl : xs.length ≤ 1000000) :
    Calls Tryz.prog 89 #[.slice a xs.length cap] w fun e w' => ∃ a' cap', e = .returned (.slice a' xs.length cap') ∧ w'.ownsRow w.heap.size 28 1 (.slice a' xs.length cap') xs.length (nums .u64 xs) ∧ (a = none ↔ a' = none) ∧ Below w.heap.size w w' := by
  cases a with
  | none =>
    have h0 : cap = 0 := h.2.2.1 rfl
    have h1 : xs.length = 0 := by have := h.le; omega
    have h2 : xs = [] := List.eq_nil_of_length_eq_zero h1
    subst h2 h0
    clear h h1
    have hn := fun (x : World) => Lib.run_eql_slice_nil (P := Tryz.prog) x 39 28 none 0 0 0 0 Tryz.underlying39
    go_enter Tryz.func89, Tryz.ntmps89
    go_wp2
    go_ret
    exact ⟨none, 0, rfl, World.ownsRow_nil _ _ _ _, by simp, Below.refl _ _⟩
  | some ad =>
    have hn := fun (x : World) => Lib.run_eql_slice_nil (P := Tryz.prog) x 39 28 (some ad) xs.length cap 0 0 Tryz.underlying39
    have HO := World.ownsRow_made (base := w.heap.size) (e := 28) (size := 1) w #[] 0 (Nat.le_refl _) (Nat.zero_le _) rfl
    have HS := Lib.hid (Rd.alloc h (.cells #[] 28)); clear h
    go_enter Tryz.func89, Tryz.ntmps89
    go_wp2_with (at_builtin; refine app_own _ rfl _ _ 39 rfl w.heap.size 28 (.int .u64 0) 1 8 Tryz.underlying39 Tryz.infoU rfl (by decide) (.slice (some ⟨w.heap.size, 0, none⟩) 0 0) 0 [] rfl HO _ xs.length cap (nums .u64 xs) rfl HS.out (nums_one _ _) (by omega) (by omega) (by simp) ?_; intro A1 c1 w1 h2 h3 h4)
    go_ret
    simp only [Nat.zero_add, List.nil_append] at h2 h4
    refine ⟨A1, c1, by simp, h2, ⟨(fun h => by cases h), (fun h => by subst h; simp [Value.ownBlock] at h4)⟩, ((Below.refl w.heap.size w).alloc (Nat.le_refl _) _).grown h3 (by simp) (fun k hk => by simp [Value.ownBlock] at hk; omega)⟩

set_option maxHeartbeats 400000 in
theorem slices_Clip_u64 (a : Option Addr) (cap : Nat) (xs : List Int) (w : World) (h : Sl .u64 w a cap xs) (hl : xs.length ≤ 1000000) :
    Calls Tryz.prog 208 #[.slice a xs.length cap] w fun e w' => e = .returned (.slice a xs.length xs.length) ∧ w = w' := by
  have hle := h.le
  go_enter Tryz.func208, Tryz.ntmps208
  go_wp2
  go_ret
  exact ⟨rfl, rfl⟩

/-! Package snap. -/
/-- The list with n behind, if it isn't there. -/
def withL (xs : List Int) (n : Int) : List Int := if n ∈ xs then xs else xs ++ [n]
def withoutL (xs : List Int) (n : Int) : List Int := xs.filter (· ≠ n)
theorem idxI_neg {xs : List Int} {n : Int} : idxI xs n < 0 ↔ n ∉ xs := by
  unfold idxI
  cases h : xs.findIdx? (· == n) with
  | none =>
    rw [List.findIdx?_eq_none_iff] at h
    simp only [beq_eq_false_iff_ne] at h
    exact ⟨fun _ hm => h n hm rfl, fun _ => by decide⟩
  | some i =>
    rw [List.findIdx?_eq_some_iff_getElem] at h
    obtain ⟨hi, hx, _⟩ := h
    refine ⟨fun h => by simp at h; omega, fun hn => absurd (List.getElem_mem hi) ?_⟩
    rw [beq_iff_eq] at hx
    rw [hx]; exact hn
theorem idxI_range (xs : List Int) (n : Int) : -1 ≤ idxI xs n ∧ idxI xs n < xs.length := by
  unfold idxI
  cases h : xs.findIdx? (· == n) with
  | none => simp; omega
  | some i =>
    rw [List.findIdx?_eq_some_iff_getElem] at h
    obtain ⟨hi, _, _⟩ := h
    simp; omega

set_option maxHeartbeats 400000 in
theorem snap_Index (a : Option Addr) (cap : Nat) (xs : List Int) (n : Int) (w : World) (h : Sl .u64 w a cap xs) (hl : xs.length ≤ 1000000) :
    Calls Tryz.prog 207 #[.agg #[.slice a xs.length cap], .int .u64 n] w fun e w' => e = .returned (.int .i64 (idxI xs n)) ∧ Below w.heap.size w w' := by
  have h1 := Sl.below h ((Below.refl _ _).alloc (Nat.le_refl _) (.cells #[.slice a xs.length cap] 251))
  have H1 := Lib.hid h1; clear h1
  clear h
  go_enter Tryz.func207, Tryz.ntmps207
  go_wp2_with (go_at_call 217; refine (slices_Index_u64 _ _ _ _ _ H1.out (by omega)).mono ?_; rintro e w' ⟨rfl, rfl⟩)
  go_ret
  exact ⟨rfl, (Below.refl _ _).alloc (Nat.le_refl _) _⟩
set_option maxHeartbeats 400000 in
theorem snap_All (a : Option Addr) (cap : Nat) (xs : List Int) (w : World) (h : Sl .u64 w a cap xs) (hl : xs.length ≤ 1000000) :
    Calls Tryz.prog 191 #[.agg #[.slice a xs.length cap]] w fun e w' => ∃ a' cap', e = .returned (.slice a' xs.length cap') ∧ w'.ownsRow w.heap.size 28 1 (.slice a' xs.length cap') xs.length (nums .u64 xs) ∧ Below w.heap.size w w' := by
  have h1 := Sl.below h ((Below.refl _ _).alloc (Nat.le_refl _) (.cells #[.slice a xs.length cap] 251))
  have H1 := Lib.hid h1; clear h1
  clear h
  go_enter Tryz.func191, Tryz.ntmps191
  go_wp2_with (go_at_call 89; refine (slices_Clone_u64 _ _ _ _ H1.out (by omega)).mono ?_; rintro e w' ⟨a', cap', rfl, ho, hn, hb⟩)
  go_ret
  exact ⟨a', cap', rfl, own_mono ho (by simp), below_step ((Below.refl w.heap.size w).alloc (Nat.le_refl _) _) (by simp) hb⟩

set_option maxHeartbeats 1000000 in
theorem snap_With (a : Option Addr) (cap : Nat) (xs : List Int) (n : Int) (w : World) (h : Sl .u64 w a cap xs) (hl : xs.length ≤ 100000) :
    Calls Tryz.prog 195 #[.agg #[.slice a xs.length cap], .int .u64 n] w fun e w' => ∃ a' cap', e = .returned (.agg #[.slice a' (withL xs n).length cap']) ∧ Sl .u64 w' a' cap' (withL xs n) ∧ Loc w.heap.size a a' ∧ Below w.heap.size w w' := by
  have HS : ∀ w1, Below w.heap.size w w1 → Sl .u64 w1 a cap xs := fun w1 hb => h.below hb
  have HH := Lib.hid HS
  clear HS
  by_cases hm : n ∈ xs
  · have e : withL xs n = xs := if_pos hm
    rw [e]; clear e
    have hi : 0 ≤ idxI xs n := by have := (not_congr (idxI_neg (xs := xs) (n := n))).2 (by simpa using hm); omega
    go_enter Tryz.func195, Tryz.ntmps195
    go_wp2_with (go_at_call 207; refine (snap_Index _ _ _ _ _ (HH.out _ (by exact ((Below.refl w.heap.size w).alloc (Nat.le_refl _) _).alloc (by simp) _)) (by omega)).mono ?_; rintro e w1 ⟨rfl, hb⟩; obtain ⟨bc, bf⟩ := bcell hb; have hz := hb.size)
    refine bodyPost_ret (v := .agg #[.slice a xs.length cap]) (by simp [results, Tryz.results195, go_sem, bc, bf]) rfl ?_
    have hB := below_step (((Below.refl w.heap.size w).alloc (Nat.le_refl _) _).alloc (by simp) _) (by simp; omega) hb
    exact ⟨a, cap, rfl, HH.out _ (hB.setCell (by simp) _), .inl rfl, hB.setCell (by simp) _⟩
  · have e : withL xs n = xs ++ [n] := if_neg hm
    rw [e]; clear e
    have hi : idxI xs n < 0 := idxI_neg.2 hm
    go_enter Tryz.func195, Tryz.ntmps195
    go_wp2_with (first | (go_at_call 207; refine (snap_Index _ _ _ _ _ (HH.out _ (by exact ((Below.refl w.heap.size w).alloc (Nat.le_refl _) _).alloc (by simp) _)) (by omega)).mono ?_; rintro e w1 ⟨rfl, hb⟩; obtain ⟨bc, bf⟩ := bcell hb; have hz := hb.size) | (go_at_call 208; refine (slices_Clip_u64 _ _ _ _ (HH.out _ (by exact below_step (((Below.refl w.heap.size w).alloc (Nat.le_refl _) _).alloc (by simp) _) (by simp; omega) hb)) (by omega)).mono ?_; rintro e w' ⟨rfl, rfl⟩) | (at_builtin; refine app_grow_one w1 rfl _ _ 39 rfl 28 (.int .u64 0) 1 8 Tryz.underlying39 Tryz.infoU rfl (by decide) a xs.length (nums .u64 xs) rfl (by exact (HH.out _ (below_step (((Below.refl w.heap.size w).alloc (Nat.le_refl _) _).alloc (by simp) _) (by simp; omega) hb)).clip) [.int .u64 n] rfl rfl (by simp [Value.oneCell']) (by omega) (by omega) ?_; intro A1 c1 w2 ho hb2; obtain ⟨bc2, bf2⟩ := bcell hb2; have hz2 := hb2.size; have hz3 : w.heap.size + 1 < w1.heap.size := by (simp only [World.size_alloc] at hz; omega)))
    have hlen : (xs ++ [n]).length = xs.length + 1 := by simp
    have hB := below_step (((Below.refl w.heap.size w).alloc (Nat.le_refl _) _).alloc (by simp) _) (by simp; omega) hb
    have hB2 := below_step hB (by omega) hb2
    rw [hlen]
    refine bodyPost_ret (v := .agg #[.slice A1 (xs.length + 1) c1]) (by simp [results, Tryz.results195, go_sem, bc, bf, bc2, bf2, hz3]) rfl ?_
    have ho2 : Rd 1 w2 A1 (xs.length + 1) c1 (nums .u64 (xs ++ [n])) := by
      rw [show nums .u64 (xs ++ [n]) = nums .u64 xs ++ [.int .u64 n] by simp [nums]]
      exact own_rd ho
    refine ⟨A1, c1, rfl, ?_, .inr fun q hq => by (subst hq; have := own_addr ho; omega), hB2.setCell (by simp) _⟩
    unfold Sl
    rw [hlen]
    exact ho2.far (fun q hq => by subst hq; have := own_addr ho; simp; omega) _
end Go.Proofs.YtonfaojmphidpaaGreatDoor

/- slices.Clone of any row: at []bool, []hist.Event, []slots.Slot. -/
namespace Go.Proofs.YtonfaojmphidpaaGreatDoor
open Go.RowKit
set_option linter.unusedVariables false
set_option linter.unusedSimpArgs false

theorem Tryz.infoB : (Tryz.prog.info? 4).map (fun i => (i.zero, i.size, i.bytes)) = some (some (.bool false), 1, 1) := by kernel_rfl
set_option maxHeartbeats 400000 in
theorem slices_Clone_bool (a : Option Addr) (n cap : Nat) (cs : List Value) (w : World) (h : Rd 1 w a n cap cs) (ho : ∀ u ∈ cs, u.oneCell' = true) (hl : n ≤ 1000000) :
    Calls Tryz.prog 76 #[.slice a n cap] w fun e w' => ∃ a' cap', e = .returned (.slice a' n cap') ∧ w'.ownsRow w.heap.size 4 1 (.slice a' n cap') n cs ∧ (a = none ↔ a' = none) ∧ Below w.heap.size w w' := by
  cases a with
  | none =>
    have h0 : cap = 0 := h.2.2.1 rfl
    have h1 : n = 0 := by have := h.2.1; omega
    have h2 : cs = [] := List.eq_nil_of_length_eq_zero (by rw [h.1, h1])
    subst h1 h2 h0
    clear h
    have hn := fun (x : World) => Lib.run_eql_slice_nil (P := Tryz.prog) x 22 4 none 0 0 0 0 Tryz.underlying22
    go_enter Tryz.func76, Tryz.ntmps76
    go_wp2
    go_ret
    exact ⟨none, 0, rfl, World.ownsRow_nil _ _ _ _, by simp, Below.refl _ _⟩
  | some ad =>
    have hn := fun (x : World) => Lib.run_eql_slice_nil (P := Tryz.prog) x 22 4 (some ad) n cap 0 0 Tryz.underlying22
    have HO := World.ownsRow_made (base := w.heap.size) (e := 4) (size := 1) w #[] 0 (Nat.le_refl _) (Nat.zero_le _) rfl
    have HS := Lib.hid (Rd.alloc h (.cells #[] 4)); clear h
    go_enter Tryz.func76, Tryz.ntmps76
    go_wp2_with (at_builtin; refine app_own _ rfl _ _ 22 rfl w.heap.size 4 (.bool false) 1 1 Tryz.underlying22 Tryz.infoB rfl (by decide) (.slice (some ⟨w.heap.size, 0, none⟩) 0 0) 0 [] rfl HO _ n cap cs rfl HS.out ho (by omega) (by omega) (by simp) ?_; intro A1 c1 w1 h2 h3 h4)
    go_ret
    simp only [Nat.zero_add, List.nil_append] at h2 h4
    refine ⟨A1, c1, by simp, h2, ⟨(fun h => by cases h), (fun h => by subst h; simp [Value.ownBlock] at h4)⟩, ((Below.refl w.heap.size w).alloc (Nat.le_refl _) _).grown h3 (by simp) (fun k hk => by simp [Value.ownBlock] at hk; omega)⟩

theorem Tryz.infoEv : (Tryz.prog.info? 108).map (fun i => (i.zero, i.size, i.bytes)) = some (some (.agg #[.int .u64 0, .int .i64 0, .int .i64 0, .int .i64 0, .int .u64 0, .int .i64 0]), 6, 48) := by kernel_rfl
set_option maxHeartbeats 400000 in
theorem slices_Clone_event (a : Option Addr) (n cap : Nat) (cs : List Value) (w : World) (h : Rd 6 w a n cap cs) (ho : ∀ u ∈ cs, u.oneCell' = true) (hl : n ≤ 1000000) :
    Calls Tryz.prog 93 #[.slice a n cap] w fun e w' => ∃ a' cap', e = .returned (.slice a' n cap') ∧ w'.ownsRow w.heap.size 108 6 (.slice a' n cap') n cs ∧ (a = none ↔ a' = none) ∧ Below w.heap.size w w' := by
  cases a with
  | none =>
    have h0 : cap = 0 := h.2.2.1 rfl
    have h1 : n = 0 := by have := h.2.1; omega
    have h2 : cs = [] := List.eq_nil_of_length_eq_zero (by rw [h.1, h1])
    subst h1 h2 h0
    clear h
    have hn := fun (x : World) => Lib.run_eql_slice_nil (P := Tryz.prog) x 106 108 none 0 0 0 0 Tryz.underlying106
    go_enter Tryz.func93, Tryz.ntmps93
    go_wp2
    go_ret
    exact ⟨none, 0, rfl, World.ownsRow_nil _ _ _ _, by simp, Below.refl _ _⟩
  | some ad =>
    have hn := fun (x : World) => Lib.run_eql_slice_nil (P := Tryz.prog) x 106 108 (some ad) n cap 0 0 Tryz.underlying106
    have HO := World.ownsRow_made (base := w.heap.size) (e := 108) (size := 6) w #[] 0 (Nat.le_refl _) (Nat.zero_le _) rfl
    have HS := Lib.hid (Rd.alloc h (.cells #[] 108)); clear h
    go_enter Tryz.func93, Tryz.ntmps93
    go_wp2_with (at_builtin; refine app_own _ rfl _ _ 106 rfl w.heap.size 108 (.agg #[.int .u64 0, .int .i64 0, .int .i64 0, .int .i64 0, .int .u64 0, .int .i64 0]) 6 48 Tryz.underlying106 Tryz.infoEv rfl (by decide) (.slice (some ⟨w.heap.size, 0, none⟩) 0 0) 0 [] rfl HO _ n cap cs rfl HS.out ho (by omega) (by omega) (by simp) ?_; intro A1 c1 w1 h2 h3 h4)
    go_ret
    simp only [Nat.zero_add, List.nil_append] at h2 h4
    refine ⟨A1, c1, by simp, h2, ⟨(fun h => by cases h), (fun h => by subst h; simp [Value.ownBlock] at h4)⟩, ((Below.refl w.heap.size w).alloc (Nat.le_refl _) _).grown h3 (by simp) (fun k hk => by simp [Value.ownBlock] at hk; omega)⟩

theorem Tryz.infoSlot : (Tryz.prog.info? 75).map (fun i => (i.zero, i.size, i.bytes)) = some (some (.agg #[.int .i64 0, .int .u64 0, .int .u64 0]), 3, 24) := by kernel_rfl
set_option maxHeartbeats 400000 in
theorem slices_Clone_slot (a : Option Addr) (n cap : Nat) (cs : List Value) (w : World) (h : Rd 3 w a n cap cs) (ho : ∀ u ∈ cs, u.oneCell' = true) (hl : n ≤ 1000000) :
    Calls Tryz.prog 56 #[.slice a n cap] w fun e w' => ∃ a' cap', e = .returned (.slice a' n cap') ∧ w'.ownsRow w.heap.size 75 3 (.slice a' n cap') n cs ∧ (a = none ↔ a' = none) ∧ Below w.heap.size w w' := by
  cases a with
  | none =>
    have h0 : cap = 0 := h.2.2.1 rfl
    have h1 : n = 0 := by have := h.2.1; omega
    have h2 : cs = [] := List.eq_nil_of_length_eq_zero (by rw [h.1, h1])
    subst h1 h2 h0
    clear h
    have hn := fun (x : World) => Lib.run_eql_slice_nil (P := Tryz.prog) x 60 75 none 0 0 0 0 Tryz.underlying60
    go_enter Tryz.func56, Tryz.ntmps56
    go_wp2
    go_ret
    exact ⟨none, 0, rfl, World.ownsRow_nil _ _ _ _, by simp, Below.refl _ _⟩
  | some ad =>
    have hn := fun (x : World) => Lib.run_eql_slice_nil (P := Tryz.prog) x 60 75 (some ad) n cap 0 0 Tryz.underlying60
    have HO := World.ownsRow_made (base := w.heap.size) (e := 75) (size := 3) w #[] 0 (Nat.le_refl _) (Nat.zero_le _) rfl
    have HS := Lib.hid (Rd.alloc h (.cells #[] 75)); clear h
    go_enter Tryz.func56, Tryz.ntmps56
    go_wp2_with (at_builtin; refine app_own _ rfl _ _ 60 rfl w.heap.size 75 (.agg #[.int .i64 0, .int .u64 0, .int .u64 0]) 3 24 Tryz.underlying60 Tryz.infoSlot rfl (by decide) (.slice (some ⟨w.heap.size, 0, none⟩) 0 0) 0 [] rfl HO _ n cap cs rfl HS.out ho (by omega) (by omega) (by simp) ?_; intro A1 c1 w1 h2 h3 h4)
    go_ret
    simp only [Nat.zero_add, List.nil_append] at h2 h4
    refine ⟨A1, c1, by simp, h2, ⟨(fun h => by cases h), (fun h => by subst h; simp [Value.ownBlock] at h4)⟩, ((Below.refl w.heap.size w).alloc (Nat.le_refl _) _).grown h3 (by simp) (fun k hk => by simp [Value.ownBlock] at hk; omega)⟩

end Go.Proofs.YtonfaojmphidpaaGreatDoor

/- A region that draws its order: its first n operations are quiet in a class of worlds, the rest come behind them in one forced order. (Derived/StillTail's theorem, over Derived/Deep/Quiet's classes.) -/
namespace Go.Proofs.YtonfaojmphidpaaGreatDoor
section
variable {P : Program} {ops : Array Oper} {md : Region.Mode} {C : World → Prop}

def wpHeadQ (P : Program) (md : Region.Mode) (ops : Array Oper) (C : World → Prop) (n : Nat) (L : Array Bool → Act → Prop) : Nat → Array Bool → Act → Prop
  | 0, listed, a => L listed a
  | f + 1, listed, a => Region.ready md ops listed ≠ [] ∧ ∀ i ∈ Region.ready md ops listed, i < n ∧ qOp P ops C i (wpHeadQ P md ops C n L f (listed.setIfInBounds i true)) a

theorem wpAny_of_headQ {n g : Nat} {L : Array Bool → Act → Prop} {Q' : Exit → Act → World → Prop} (hL : ∀ listed a w, C w → L listed a → wpAny P md ops Q' g listed a w) :
    ∀ (f : Nat) (listed : Array Bool) (a : Act) (w : World), C w → wpHeadQ P md ops C n L f listed a → wpAny P md ops Q' (f + g) listed a w
  | 0, listed, a, w, hw, h => by rw [Nat.zero_add]; exact hL _ _ _ hw h
  | f + 1, listed, a, w, hw, h => by
    rw [show f + 1 + g = (f + g) + 1 by omega]
    exact ⟨fun h0 => absurd h0 h.1, fun i hi => wpOp_of_qOp hw (fun a' w' hw' h' => wpAny_of_headQ hL f _ a' w' hw' h') (h.2 i hi).2⟩

theorem wpHeadQ_first {n i : Nat} {oi : Oper} {v : Value} {L : Array Bool → Act → Prop} (hi : ops[i]? = some oi) (hsel : ∀ (j : Nat) (o : Oper) cs b, ops[j]? = some o → o.op ≠ .select cs b)
    (hs : Region.sinkB md ops n = true) (hc : Region.chainB md ops n = true) (hn : n < ops.size) (hin : i < n)
    (hdone : ∀ listed a, L listed a → ∀ j ∈ Region.ready md ops listed, n ≤ j) :
    ∀ (f : Nat) (listed : Array Bool) (a : Act), HeadInv md ops n listed →
      (∀ j oj, ops[j]? = some oj → j ≠ i → listed.getD j true = false → (∀ e ∈ oj.after, Region.binds md e = true → e.on ≠ i) → oi.apart ops oj = true) →
      i ∈ Region.ready md ops listed → YieldsIn P ops C oi v a →
      wpHeadQ P md ops C n L f (listed.setIfInBounds i true) (a.put oi.dst v) → wpHeadQ P md ops C n L (f + 1) listed a := by
  intro f
  induction f with
  | zero =>
    intro listed a inv _ hr hy H
    have hun := (mem_ready.1 hr).1
    refine ⟨fun h => (by rw [h] at hr; cases hr), fun j hj => ?_⟩
    have hjn : j < n := by
      rcases Nat.lt_or_ge j n with h | h
      · exact h
      · exact absurd hj (tail_waits hs hc hn inv _ i rfl hin hun j h)
    refine ⟨hjn, ?_⟩
    by_cases hji : j = i
    · subst hji; exact hy.qOp hi H
    · have := hdone _ _ H j (ready_mono hj hji)
      omega
  | succ f ih =>
    intro listed a inv hfree hr hy H
    have hun := (mem_ready.1 hr).1
    refine ⟨fun h => (by rw [h] at hr; cases hr), fun j hj => ?_⟩
    have hjn : j < n := by
      rcases Nat.lt_or_ge j n with h | h
      · exact h
      · exact absurd hj (tail_waits hs hc hn inv _ i rfl hin hun j h)
    refine ⟨hjn, ?_⟩
    by_cases hji : j = i
    · subst hji; exact hy.qOp hi H
    · have h1 := (H.2 j (ready_mono hj hji)).2
      obtain ⟨hjun, oj, hoj, hall⟩ := mem_ready.1 hj
      have hnot : ∀ e ∈ oj.after, Region.binds md e = true → e.on ≠ i := fun e he hb heq => by
        have h1 := hall e he hb
        rw [heq, getD_both hun] at h1
        cases h1
      have h2 := qOp_put hoj (hfree j oj hoj hji hjun hnot) (fun cs b => hsel i oi cs b hi) (fun cs b => hsel j oj cs b hoj) hy h1
      have hfree' : ∀ k ok, ops[k]? = some ok → k ≠ i → (listed.setIfInBounds j true).getD k true = false →
          (∀ e ∈ ok.after, Region.binds md e = true → e.on ≠ i) → oi.apart ops ok = true := fun k ok hk hki hunk hno => by
        refine hfree k ok hk hki ?_ hno
        by_cases hjk : j = k
        · subst hjk; exact hjun
        · rw [getD_set_ne true hjk] at hunk; exact hunk
      refine qOp_mono (fun a' h3 => ih (listed.setIfInBounds j true) a' (inv.set hj hjn) hfree' (ready_mono hr (Ne.symm hji)) h3.1 ?_) h2
      rw [Array.setIfInBounds_comm _ _ hji]
      exact h3.2

theorem wpHeadQ_lex {n g : Nat} {Lq : Act → Prop} (hsel : Region.noSelect ops = true) (hs : Region.sinkB md ops n = true) (hc : Region.chainB md ops n = true) (hn : n < ops.size) :
    ∀ (l : List Oper) (k : Nat) (listed : Array Bool) (a : Act), (∀ j, j < l.length → l[j]? = ops[k + j]?) → k + l.length = n → HeadInv md ops n listed →
    Region.lexHead md ops g l.length k listed = true → wpQuiet P ops C Lq l a →
    wpHeadQ P md ops C n (fun listed' a' => Region.seqB md ops g n listed' = true ∧ Lq a') l.length listed a
  | [], k, listed, a, _, hk, _, hB, h => by
    have : k = n := by simpa using hk
    subst this
    exact ⟨by simpa [Region.lexHead] using hB, h⟩
  | o :: l, k, listed, a, hl, hk, inv, hB, h => by
    have h0 : ops[k]? = some o := by simpa using (hl 0 (by simp)).symm
    simp only [List.length_cons, Region.lexHead, Bool.and_eq_true] at hB
    obtain ⟨⟨hr, hf⟩, hB'⟩ := hB
    have hkn : k < n := by simp only [List.length_cons] at hk; omega
    have hr' : k ∈ Region.ready md ops listed := by simpa using hr
    have hst : qOp P ops C k (wpQuiet P ops C Lq l) a := by unfold qOp; simp only [h0]; exact h
    obtain ⟨v, hy, hK⟩ := yieldsIn_of_qOp h0 hst
    exact wpHeadQ_first h0 (Region.noSelect_spec hsel) hs hc hn hkn (fun listed' a' hL => seqB_ready hL.1) l.length listed a inv (Region.free_spec h0 hf) hr' hy
      (wpHeadQ_lex hsel hs hc hn l (k + 1) _ _ (fun j hj => by have := hl (j + 1) (by simp; omega); simpa [Nat.add_assoc, Nat.add_comm 1 j] using this) (by simp only [List.length_cons] at hk; omega) (inv.set hr' hkn) hB' hK)

/-- The region: its head over the class C, then its tail, in order, in whatever world of C. -/
theorem wp_region_class_tail (C : World → Prop) (n : Nat) {id : Nat} {Q : Exit → Act → World → Prop} {a : Act} {w : World} {l : List Oper} (hm : P.follows .mixedOrders = true) (hB : Region.lexTailB .any l.toArray n = true) (hC : C w.drew)
    (h : wpQuiet P l.toArray C (fun a' => ∀ w', C w' → wpList P l.toArray Q (l.drop n) a' w') (l.take n) a) : (Code.region id l.toArray true).wp P Q a w := by
  simp only [Region.lexTailB, Bool.and_eq_true, decide_eq_true_eq] at hB
  obtain ⟨⟨⟨⟨hsel, hn⟩, hs⟩, hc⟩, hlex⟩ := hB
  have hn' : n < l.length := by simpa using hn
  have htl : (l.take n).length = n := by simp; omega
  have hdl : (l.drop n).length = l.toArray.size - n := by simp
  have inv0 : HeadInv .any l.toArray n (Array.replicate l.toArray.size false) :=
    ⟨by simp, fun j oj _ hl => (by rw [getD_replicate_false] at hl; cases hl), fun t _ ht => getD_in (by simpa using ht) (getD_replicate_false _ _)⟩
  have H := wpHeadQ_lex (md := .any) (C := C) (g := l.toArray.size - n) hsel hs hc hn (l.take n) 0 _ a (fun j hj => by
    have hj' : j < n := by rw [htl] at hj; exact hj
    simp [hj']) (by simpa using htl) inv0 (by rw [htl]; exact hlex) h
  refine wp_region_any hm ?_
  have := wpAny_of_headQ (Q' := Q) (g := l.toArray.size - n) (fun listed a' w' hw' hL => by
    have := wpAny_of_seq (md := .any) (Q' := Q) (l.drop n) n listed a' w' (fun j => by simp [List.getElem?_drop]) (by rw [hdl]; exact hL.1) (hL.2 w' hw')
    rwa [hdl] at this) _ _ _ _ hC H
  rw [htl, show n + (l.toArray.size - n) = l.toArray.size by omega] at this
  exact this
end
end Go.Proofs.YtonfaojmphidpaaGreatDoor

/- Slices of ints: slices.Equal, slices.Clone (turned from those of uint64). -/
namespace Go.Proofs.YtonfaojmphidpaaGreatDoor
open Go.RowKit
set_option linter.unusedVariables false
set_option linter.unusedSimpArgs false

theorem Tryz.infoI : (Tryz.prog.info? 3).map (fun i => (i.zero, i.size, i.bytes)) = some (some (.int .i64 0), 1, 8) := by kernel_rfl
set_option maxHeartbeats 400000 in
theorem slices_Equal_i64 (a a' : Option Addr) (cap cap' : Nat) (xs ys : List Int) (w : World) (h : Sl .i64 w a cap xs) (h' : Sl .i64 w a' cap' ys) (hl : xs.length ≤ 4611686018427387904) (hl' : ys.length ≤ 4611686018427387904) :
    Calls Tryz.prog 69 #[.slice a xs.length cap, .slice a' ys.length cap'] w fun e w' => e = .returned (.bool (xs == ys)) ∧ ∃ q, w' = w.drewN q := by
  by_cases hlen : xs.length = ys.length
  · go_enter Tryz.func69, Tryz.ntmps69
    have hne : ((xs.length : Int) != (ys.length : Int)) = false := by simp [hlen]
    have HL := Lib.hid hlen; clear hlen
    go_wp2
    go_loopw [13] (fun i wr => ∃ k : Nat, k ≤ xs.length ∧ i = .int .i64 k ∧ (∀ j, j < k → xs.getD j 0 = ys.getD j 0) ∧ ∃ q, wr = w.drewN q) (fun i _ => xs.length - (intOf i).toNat)
    case atStart => exact ⟨0, by omega, rfl, fun j hj => absurd hj (by omega), 0, rfl⟩
    case round =>
      obtain ⟨k, hk, rfl, hno, q, rfl⟩ := hrel
      have HN := Lib.hid hno; clear hno
      by_cases hlt : k < xs.length
      · have hlt' : k < ys.length := by rw [← HL.out]; exact hlt
        obtain ⟨b, off, rfl, hbs, hc⟩ := h.at_ (by omega)
        obtain ⟨b', off', rfl, hbs', hc'⟩ := h'.at_ (by omega)
        have c0 := hc k hlt
        have c0' := hc' k hlt'
        clear hc hc'
        have e1 : (0 : Int) ≤ (k : Int) := by omega
        have e2 : (k : Int) < (xs.length : Int) := by omega
        have e3 : (k : Int) < (ys.length : Int) := by omega
        by_cases hx : xs.getD k 0 = ys.getD k 0
        · have hx' : (xs.getD k 0 != ys.getD k 0) = false := by simpa using hx
          have HX := Lib.hid hx; clear hx
          generalize hxx : xs.getD k 0 = x at c0 hx'
          generalize hyy : ys.getD k 0 = y at c0' hx'
          have HXX := Lib.hid hxx; clear hxx
          have HYY := Lib.hid hyy; clear hyy
          go_wp2
          go_quiet (fail)
          go_wp2
          go_roundw
          case rel => exact ⟨k + 1, by omega, by go_num, fun j hj => by
            by_cases e : j = k
            · subst e; exact HX.out
            · exact HN.out j (by omega), _, rfl⟩
          case measure => simp [intOf]; omega
        · have hx' : (xs.getD k 0 != ys.getD k 0) = true := by simpa using hx
          have HX := Lib.hid hx; clear hx
          generalize hxx : xs.getD k 0 = x at c0 hx'
          generalize hyy : ys.getD k 0 = y at c0' hx'
          have HXX := Lib.hid hxx; clear hxx
          have HYY := Lib.hid hyy; clear hyy
          go_wp2
          go_quiet (fail)
          go_wp2
          go_ret
          exact ⟨ret_bool (by
            symm
            rw [beq_eq_false_iff_ne]
            intro e; subst e; exact HX.out rfl), _, World.drewN_drewN _ _ _⟩
      · go_wp2
        go_ret
        have : xs = ys := list_ext_getD HL.out fun i hi => HN.out i (by omega)
        exact ⟨ret_bool (by rw [this]; simp), q, rfl⟩
  · go_enter Tryz.func69, Tryz.ntmps69
    have hne : ((xs.length : Int) != (ys.length : Int)) = true := by simp; omega
    go_wp2
    go_ret
    exact ⟨ret_bool (by
      symm
      rw [beq_eq_false_iff_ne]
      intro e; subst e; exact hlen rfl), 0, rfl⟩
set_option maxHeartbeats 400000 in
theorem slices_Clone_i64 (a : Option Addr) (cap : Nat) (xs : List Int) (w : World) (h : Sl .i64 w a cap xs) (hl : xs.length ≤ 1000000) :
    Calls Tryz.prog 127 #[.slice a xs.length cap] w fun e w' => ∃ a' cap', e = .returned (.slice a' xs.length cap') ∧ w'.ownsRow w.heap.size 3 1 (.slice a' xs.length cap') xs.length (nums .i64 xs) ∧ (a = none ↔ a' = none) ∧ Below w.heap.size w w' := by
  cases a with
  | none =>
    have h0 : cap = 0 := h.2.2.1 rfl
    have h1 : xs.length = 0 := by have := h.le; omega
    have h2 : xs = [] := List.eq_nil_of_length_eq_zero h1
    subst h2 h0
    clear h h1
    have hn := fun (x : World) => Lib.run_eql_slice_nil (P := Tryz.prog) x 53 3 none 0 0 0 0 Tryz.underlying53
    go_enter Tryz.func127, Tryz.ntmps127
    go_wp2
    go_ret
    exact ⟨none, 0, rfl, World.ownsRow_nil _ _ _ _, by simp, Below.refl _ _⟩
  | some ad =>
    have hn := fun (x : World) => Lib.run_eql_slice_nil (P := Tryz.prog) x 53 3 (some ad) xs.length cap 0 0 Tryz.underlying53
    have HO := World.ownsRow_made (base := w.heap.size) (e := 3) (size := 1) w #[] 0 (Nat.le_refl _) (Nat.zero_le _) rfl
    have HS := Lib.hid (Rd.alloc h (.cells #[] 3)); clear h
    go_enter Tryz.func127, Tryz.ntmps127
    go_wp2_with (at_builtin; refine app_own _ rfl _ _ 53 rfl w.heap.size 3 (.int .i64 0) 1 8 Tryz.underlying53 Tryz.infoI rfl (by decide) (.slice (some ⟨w.heap.size, 0, none⟩) 0 0) 0 [] rfl HO _ xs.length cap (nums .i64 xs) rfl HS.out (nums_one _ _) (by omega) (by omega) (by simp) ?_; intro A1 c1 w1 h2 h3 h4)
    go_ret
    simp only [Nat.zero_add, List.nil_append] at h2 h4
    refine ⟨A1, c1, by simp, h2, ⟨(fun h => by cases h), (fun h => by subst h; simp [Value.ownBlock] at h4)⟩, ((Below.refl w.heap.size w).alloc (Nat.le_refl _) _).grown h3 (by simp) (fun k hk => by simp [Value.ownBlock] at hk; omega)⟩
end Go.Proofs.YtonfaojmphidpaaGreatDoor

/- A region that draws its order and holds calls (or appends) whose value hangs on the world: what is still is taken as soon as it may come up; the others come up one at a time. One walk, in an order that is given, serves every order. -/
namespace Go.Proofs.YtonfaojmphidpaaGreatDoor
set_option linter.unusedVariables false
section
variable {P : Program} {ops : Array Oper} {md : Region.Mode} {C : World → Prop}

/-- What an operation that may touch the world comes to: a value, in a world of the class. -/
def mixUpon (P : Program) (C : World → Prop) (K : Value → World → Prop) : Result Next → Prop
  | .ok (.value u) w' => C w' ∧ K u w'
  | .ok .skip w' => C w' ∧ K undef w'
  | .ok (.enter f args) w' => Calls P f args w' (fun e w'' => ∃ v, e = .returned v ∧ C w'' ∧ K v w'')
  | _ => False
def mOp (P : Program) (ops : Array Oper) (C : World → Prop) (i : Nat) (K : Act → World → Prop) (a : Act) (w : World) : Prop :=
  match ops[i]? with
  | none => K a w
  | some o => if Region.wanted o (yielded ops a.tmps) then mixUpon P C (fun v w' => K (a.put o.dst v) w') ((execOp a.eval o).run P w) else K (a.put o.dst undef) w

attribute [go_sem] mixUpon
theorem mixUpon_mono {K K' : Value → World → Prop} (h : ∀ v w', C w' → K v w' → K' v w') : ∀ {r : Result Next}, mixUpon P C K r → mixUpon P C K' r
  | .ok (.value u) w', hh => ⟨hh.1, h _ _ hh.1 hh.2⟩
  | .ok .skip w', hh => ⟨hh.1, h _ _ hh.1 hh.2⟩
  | .ok (.enter f args) w', hh => Calls.mono hh fun e w'' ⟨v, he, hc, hk⟩ => ⟨v, he, hc, h _ _ hc hk⟩
theorem mOp_mono {i : Nat} {a : Act} {w : World} {K K' : Act → World → Prop} (hw : C w) (h : ∀ a w', C w' → K a w' → K' a w') (hh : mOp P ops C i K a w) : mOp P ops C i K' a w := by
  unfold mOp at *
  split
  · exact h _ _ hw (by simpa [*] using hh)
  · rename_i o ho
    simp only [ho] at hh
    split
    · rename_i hwant; simp only [hwant, if_true] at hh; exact mixUpon_mono (C := C) (K := fun v w' => K (a.put o.dst v) w') (fun v w' hc hk => h (a.put o.dst v) w' hc hk) hh
    · rename_i hwant; simp only [hwant] at hh; exact h _ _ hw hh
theorem wp_of_mix {o : Oper} {a : Act} {K' : Act → World → Prop} {Q' : Exit → Act → World → Prop} {w : World} (hh : mixUpon P C (fun v w' => K' (a.put o.dst v) w') ((execOp a.eval o).run P w)) : o.wp P a w K' Q' := by
  unfold Oper.wp
  generalize (execOp a.eval o).run P w = r at *
  cases r with
  | ok n w' =>
    cases n <;> simp only [mixUpon] at hh <;> simp only [Oper.upon]
    case value u => exact hh.2
    case skip => exact hh.2
    case enter f args => exact hh.mono fun e w'' ⟨v, he, _, hk⟩ => by subst he; exact hk
  | halt x w' => simp only [mixUpon] at hh
theorem wpOp_of_mOp {i : Nat} {a : Act} {K : Act → World → Prop} {K' : Act → World → Prop} {Q' : Exit → Act → World → Prop} {w : World} (hC : C w) (h : ∀ a w', C w' → K a w' → K' a w') (hh : mOp P ops C i K a w) : wpOp P ops Q' i K' a w := by
  have hh := mOp_mono hC h hh
  unfold mOp at hh
  unfold wpOp
  split
  · rename_i ho; simp only [ho] at hh; exact hh
  · rename_i o ho
    simp only [ho] at hh
    split
    · rename_i hw; simp only [hw, if_true] at hh; exact .inl (wp_of_mix hh)
    · rename_i hw; simp only [hw] at hh; exact hh

/-- One value, in the very world that it got. -/
def stillUpon (w : World) (v : Value) : Result Next → Prop
  | .ok (.value u) w' => w' = w ∧ u = v
  | .ok .skip w' => w' = w ∧ v = undef
  | _ => False
attribute [go_sem] stillUpon
def StillIn (P : Program) (ops : Array Oper) (C : World → Prop) (o : Oper) (v : Value) (a : Act) : Prop :=
  (Region.wanted o (yielded ops a.tmps) = true ∧ ∀ w, C w → stillUpon w v ((execOp a.eval o).run P w)) ∨ (Region.wanted o (yielded ops a.tmps) = false ∧ v = undef)
theorem StillIn.mOp {i : Nat} {o : Oper} {v : Value} {a : Act} {w : World} (hi : ops[i]? = some o) (hy : StillIn P ops C o v a) (hC : C w) {K : Act → World → Prop} (h : K (a.put o.dst v) w) : mOp P ops C i K a w := by
  unfold Go.Proofs.YtonfaojmphidpaaGreatDoor.mOp
  simp only [hi]
  rcases hy with ⟨hw, hv⟩ | ⟨hw, rfl⟩
  · simp only [hw, if_true]
    have := hv w hC
    generalize (execOp a.eval o).run P w = r at *
    cases r with
    | ok n w' =>
      cases n <;> simp only [stillUpon] at this <;> simp only [mixUpon]
      case value u => obtain ⟨rfl, rfl⟩ := this; exact ⟨hC, h⟩
      case skip => obtain ⟨rfl, rfl⟩ := this; exact ⟨hC, h⟩
    | halt x w' => simp only [stillUpon] at this
  · simp only [hw, Bool.false_eq_true, if_false]; exact h
theorem StillIn.of_same {o : Oper} {v : Value} {a a' : Act} (hy : StillIn P ops C o v a) (he : execOp a'.eval o = execOp a.eval o)
    (hw : Region.wanted o (yielded ops a'.tmps) = Region.wanted o (yielded ops a.tmps)) : StillIn P ops C o v a' := by
  unfold StillIn at *
  rw [he, hw]
  exact hy
theorem mOp_put {j : Nat} {oi oj : Oper} {v : Value} (hj : ops[j]? = some oj) (hap : oi.apart ops oj = true)
    (hsi : ∀ cs b, oi.op ≠ .select cs b) (hsj : ∀ cs b, oj.op ≠ .select cs b) {K : Act → World → Prop} {a : Act} {w : World}
    (hy : StillIn P ops C oi v a) (h : mOp P ops C j K (a.put oi.dst v) w) :
    mOp P ops C j (fun a' w' => StillIn P ops C oi v a' ∧ K (a'.put oi.dst v) w') a w := by
  obtain ⟨h1, h2, h3⟩ := Oper.apart_spec hap
  have keep : ∀ u, StillIn P ops C oi v (a.put oj.dst u) := fun u => hy.of_same (execOp_put oi hsi a oj.dst u h3) (wanted_put oi a oj.dst u h3)
  unfold mOp at *
  simp only [hj] at *
  rw [wanted_put oj a oi.dst v h1] at h
  split
  · rename_i hw
    simp only [hw, if_true] at h
    rw [execOp_put oj hsj a oi.dst v h1] at h
    refine mixUpon_mono (C := C) (K := fun u w' => K ((a.put oi.dst v).put oj.dst u) w') (fun u w' _ hk => ⟨keep u, ?_⟩) h
    rw [← Act.put_comm a v u h2]; exact hk
  · rename_i hw
    simp only [hw] at h
    exact ⟨keep _, by rw [← Act.put_comm a v undef h2]; exact h⟩

def wpHeadM (P : Program) (md : Region.Mode) (ops : Array Oper) (C : World → Prop) (n : Nat) (L : Array Bool → Act → World → Prop) : Nat → Array Bool → Act → World → Prop
  | 0, listed, a, w => L listed a w
  | f + 1, listed, a, w => Region.ready md ops listed ≠ [] ∧ ∀ i ∈ Region.ready md ops listed, i < n ∧ mOp P ops C i (wpHeadM P md ops C n L f (listed.setIfInBounds i true)) a w
theorem wpAny_of_headM {n g : Nat} {L : Array Bool → Act → World → Prop} {Q' : Exit → Act → World → Prop} (hL : ∀ listed a w, C w → L listed a w → wpAny P md ops Q' g listed a w) :
    ∀ (f : Nat) (listed : Array Bool) (a : Act) (w : World), C w → wpHeadM P md ops C n L f listed a w → wpAny P md ops Q' (f + g) listed a w
  | 0, listed, a, w, hw, h => by rw [Nat.zero_add]; exact hL _ _ _ hw h
  | f + 1, listed, a, w, hw, h => by
    rw [show f + 1 + g = (f + g) + 1 by omega]
    exact ⟨fun h0 => absurd h0 h.1, fun i hi => wpOp_of_mOp hw (fun a' w' hw' h' => wpAny_of_headM hL f _ a' w' hw' h') (h.2 i hi).2⟩

/-- What the head must leave: the operations from n on alone may come up. -/
def Heads (md : Region.Mode) (ops : Array Oper) (n : Nat) : Prop :=
  ∀ (listed : Array Bool), HeadInv md ops n listed → ∀ i, i < n → listed.getD i true = false → ∀ t, n ≤ t → t ∉ Region.ready md ops listed

theorem wpHeadM_first {n i : Nat} {oi : Oper} {v : Value} {L : Array Bool → Act → World → Prop} (hi : ops[i]? = some oi) (hsel : ∀ (j : Nat) (o : Oper) cs b, ops[j]? = some o → o.op ≠ .select cs b)
    (hH : Heads md ops n) (hin : i < n) (hdone : ∀ listed a w, L listed a w → ∀ j ∈ Region.ready md ops listed, n ≤ j) :
    ∀ (f : Nat) (listed : Array Bool) (a : Act) (w : World), C w → HeadInv md ops n listed →
      (∀ j oj, ops[j]? = some oj → j ≠ i → listed.getD j true = false → (∀ e ∈ oj.after, Region.binds md e = true → e.on ≠ i) → oi.apart ops oj = true) →
      i ∈ Region.ready md ops listed → StillIn P ops C oi v a →
      wpHeadM P md ops C n L f (listed.setIfInBounds i true) (a.put oi.dst v) w → wpHeadM P md ops C n L (f + 1) listed a w := by
  intro f
  induction f with
  | zero =>
    intro listed a w hC inv _ hr hy H
    have hun := (mem_ready.1 hr).1
    refine ⟨fun h => (by rw [h] at hr; cases hr), fun j hj => ?_⟩
    have hjn : j < n := by
      rcases Nat.lt_or_ge j n with h | h
      · exact h
      · exact absurd hj (hH listed inv i hin hun j h)
    refine ⟨hjn, ?_⟩
    by_cases hji : j = i
    · subst hji; exact hy.mOp hi hC H
    · have := hdone _ _ _ H j (ready_mono hj hji)
      omega
  | succ f ih =>
    intro listed a w hC inv hfree hr hy H
    have hun := (mem_ready.1 hr).1
    refine ⟨fun h => (by rw [h] at hr; cases hr), fun j hj => ?_⟩
    have hjn : j < n := by
      rcases Nat.lt_or_ge j n with h | h
      · exact h
      · exact absurd hj (hH listed inv i hin hun j h)
    refine ⟨hjn, ?_⟩
    by_cases hji : j = i
    · subst hji; exact hy.mOp hi hC H
    · have h1 := (H.2 j (ready_mono hj hji)).2
      obtain ⟨hjun, oj, hoj, hall⟩ := mem_ready.1 hj
      have hnot : ∀ e ∈ oj.after, Region.binds md e = true → e.on ≠ i := fun e he hb heq => by
        have h1 := hall e he hb
        rw [heq, getD_both hun] at h1
        cases h1
      have h2 := mOp_put hoj (hfree j oj hoj hji hjun hnot) (fun cs b => hsel i oi cs b hi) (fun cs b => hsel j oj cs b hoj) hy h1
      have hfree' : ∀ k ok, ops[k]? = some ok → k ≠ i → (listed.setIfInBounds j true).getD k true = false →
          (∀ e ∈ ok.after, Region.binds md e = true → e.on ≠ i) → oi.apart ops ok = true := fun k ok hk hki hunk hno => by
        refine hfree k ok hk hki ?_ hno
        by_cases hjk : j = k
        · subst hjk; exact hjun
        · rw [getD_set_ne true hjk] at hunk; exact hunk
      refine mOp_mono hC (fun a' w' hC' h3 => ih (listed.setIfInBounds j true) a' w' hC' (inv.set hj hjn) hfree' (ready_mono hr (Ne.symm hji)) h3.1 ?_) h2
      rw [Array.setIfInBounds_comm _ _ hji]
      exact h3.2

/-! ### An order that is given: (i, true): operation i, which is still; (i, false): operation i, the only one that may come up. -/
def ordB (md : Region.Mode) (ops : Array Oper) (n : Nat) (fin : Array Bool → Bool) : List (Nat × Bool) → Array Bool → Bool
  | [], listed => fin listed
  | (i, true) :: r, listed => (Region.ready md ops listed).contains i && Region.free md ops listed i && decide (i < n) && ordB md ops n fin r (listed.setIfInBounds i true)
  | (i, false) :: r, listed => decide (Region.ready md ops listed = [i]) && decide (i < n) && ordB md ops n fin r (listed.setIfInBounds i true)
def wpOrd (P : Program) (ops : Array Oper) (C : World → Prop) (Lq : Act → World → Prop) : List (Nat × Bool) → Act → World → Prop
  | [], a, w => Lq a w
  | (i, true) :: r, a, w => ∃ o v, ops[i]? = some o ∧ StillIn P ops C o v a ∧ wpOrd P ops C Lq r (a.put o.dst v) w
  | (i, false) :: r, a, w => mOp P ops C i (wpOrd P ops C Lq r) a w

theorem wpHeadM_ord {n : Nat} {fin : Array Bool → Bool} {Lq : Act → World → Prop} (hsel : Region.noSelect ops = true) (hH : Heads md ops n) (hfin : ∀ listed, fin listed = true → ∀ j ∈ Region.ready md ops listed, n ≤ j) :
    ∀ (l : List (Nat × Bool)) (listed : Array Bool) (a : Act) (w : World), C w → HeadInv md ops n listed → ordB md ops n fin l listed = true → wpOrd P ops C Lq l a w →
    wpHeadM P md ops C n (fun listed' a' w' => fin listed' = true ∧ Lq a' w') l.length listed a w
  | [], listed, a, w, _, _, hB, h => ⟨hB, h⟩
  | (i, true) :: r, listed, a, w, hC, inv, hB, h => by
    obtain ⟨o, v, ho, hy, hK⟩ := h
    simp only [ordB, Bool.and_eq_true, decide_eq_true_eq] at hB
    obtain ⟨⟨⟨hr, hf⟩, hin⟩, hB'⟩ := hB
    have hr' : i ∈ Region.ready md ops listed := by simpa using hr
    exact wpHeadM_first ho (Region.noSelect_spec hsel) hH hin (fun listed' a' w' hL => hfin listed' hL.1) r.length listed a w hC inv (Region.free_spec ho hf) hr' hy
      (wpHeadM_ord hsel hH hfin r _ _ w hC (inv.set hr' hin) hB' hK)
  | (i, false) :: r, listed, a, w, hC, inv, hB, h => by
    simp only [ordB, Bool.and_eq_true, decide_eq_true_eq] at hB
    obtain ⟨⟨hr, hin⟩, hB'⟩ := hB
    have hr' : i ∈ Region.ready md ops listed := by rw [hr]; simp
    refine ⟨fun h0 => (by rw [h0] at hr'; cases hr'), fun j hj => ?_⟩
    rw [hr] at hj
    obtain rfl : j = i := by simpa using hj
    exact ⟨hin, mOp_mono hC (fun a' w' hC' h' => wpHeadM_ord hsel hH hfin r _ a' w' hC' (inv.set hr' hin) hB' h') h⟩

def mixTailB (md : Region.Mode) (ops : Array Oper) (n : Nat) (ord : List (Nat × Bool)) : Bool :=
  Region.noSelect ops && decide (n < ops.size) && decide (ord.length = n) && Region.sinkB md ops n && Region.chainB md ops n && ordB md ops n (fun listed => Region.seqB md ops (ops.size - n) n listed) ord (Array.replicate ops.size false)
def mixB (md : Region.Mode) (ops : Array Oper) (ord : List (Nat × Bool)) : Bool :=
  Region.noSelect ops && decide (ord.length = ops.size) && ordB md ops ops.size (fun listed => (Region.ready md ops listed).isEmpty) ord (Array.replicate ops.size false)

theorem head0 {l : List Oper} {n : Nat} : HeadInv .any l.toArray n (Array.replicate l.toArray.size false) :=
  ⟨by simp, fun j oj _ hl => (by rw [getD_replicate_false] at hl; cases hl), fun t _ ht => getD_in (by simpa using ht) (getD_replicate_false _ _)⟩

/-- The head in the order 'ord', then the tail from n on. -/
theorem wp_region_mix_tail (C : World → Prop) (n : Nat) (ord : List (Nat × Bool)) {id : Nat} {Q : Exit → Act → World → Prop} {a : Act} {w : World} {l : List Oper} (hm : P.follows .mixedOrders = true) (hB : mixTailB .any l.toArray n ord = true) (hC : C w.drew)
    (h : wpOrd P l.toArray C (fun a' w' => C w' → wpList P l.toArray Q (l.drop n) a' w') ord a w.drew) : (Code.region id l.toArray true).wp P Q a w := by
  simp only [mixTailB, Bool.and_eq_true, decide_eq_true_eq] at hB
  obtain ⟨⟨⟨⟨⟨hsel, hn⟩, hol⟩, hs⟩, hc⟩, hlex⟩ := hB
  have hn' : n < l.length := by simpa using hn
  have hdl : (l.drop n).length = l.toArray.size - n := by simp
  have H := wpHeadM_ord (md := .any) hsel (n := n) (fun listed inv i hi hun t ht => tail_waits hs hc hn inv _ i rfl hi hun t ht) (fun listed hf => seqB_ready hf) ord _ a _ hC head0 hlex h
  refine wp_region_any hm ?_
  have := wpAny_of_headM (Q' := Q) (g := l.toArray.size - n) (fun listed a' w' hw' hL => by
    have := wpAny_of_seq (md := .any) (Q' := Q) (l.drop n) n listed a' w' (fun j => by simp [List.getElem?_drop]) (by rw [hdl]; exact hL.1) (hL.2 hw')
    rwa [hdl] at this) _ _ _ _ hC H
  rw [hol, show n + (l.toArray.size - n) = l.toArray.size by omega] at this
  exact this
theorem wp_region_mix (C : World → Prop) (ord : List (Nat × Bool)) {id : Nat} {Q : Exit → Act → World → Prop} {a : Act} {w : World} {l : List Oper} (hm : P.follows .mixedOrders = true) (hB : mixB .any l.toArray ord = true) (hC : C w.drew)
    (h : wpOrd P l.toArray C (fun a' w' => C w' → Q .normal a' w') ord a w.drew) : (Code.region id l.toArray true).wp P Q a w := by
  simp only [mixB, Bool.and_eq_true, decide_eq_true_eq] at hB
  obtain ⟨⟨hsel, hol⟩, hlex⟩ := hB
  have H := wpHeadM_ord (md := .any) hsel (n := l.toArray.size) (fun listed inv i hi hun t ht hr => by
    obtain ⟨_, o, ho, _⟩ := mem_ready.1 hr
    have := (Array.getElem?_eq_some_iff.1 ho).1
    omega) (fun listed hf j hj => by rw [List.isEmpty_iff.1 hf] at hj; cases hj) ord _ a _ hC head0 hlex h
  refine wp_region_any hm ?_
  have := wpAny_of_headM (Q' := Q) (g := 0) (fun listed a' w' hw' hL => ⟨List.isEmpty_iff.1 hL.1, hL.2 hw'⟩) _ _ _ _ hC H
  rw [hol, Nat.add_zero] at this
  exact this

/-! ### The steps of the walk -/
theorem ord_nil {Lq : Act → World → Prop} {a : Act} {w : World} (h : Lq a w) : wpOrd P ops C Lq [] a w := h
theorem ord_still {Lq : Act → World → Prop} {i : Nat} {r : List (Nat × Bool)} {a : Act} {w : World} {o : Oper} (ho : ops[i]? = some o) (hw : Region.wanted o (yielded ops a.tmps) = true)
    (h : ∀ K : Act → Prop, (∀ a, wpOrd P ops C Lq r a w → K a) → ∃ v, (∀ w', C w' → stillUpon w' v ((execOp a.eval o).run P w')) ∧ K (a.put o.dst v)) : wpOrd P ops C Lq ((i, true) :: r) a w := by
  obtain ⟨v, hv, hk⟩ := h _ (fun _ h => h)
  exact ⟨o, v, ho, .inl ⟨hw, hv⟩, hk⟩
theorem ord_skip {Lq : Act → World → Prop} {i : Nat} {r : List (Nat × Bool)} {a : Act} {w : World} {o : Oper} (ho : ops[i]? = some o) (hw : Region.wanted o (yielded ops a.tmps) = false)
    (h : ∀ K : Act → Prop, (∀ a, wpOrd P ops C Lq r a w → K a) → K (a.put o.dst undef)) : wpOrd P ops C Lq ((i, true) :: r) a w := ⟨o, undef, ho, .inr ⟨hw, rfl⟩, h _ (fun _ h => h)⟩
theorem ord_sole {Lq : Act → World → Prop} {i : Nat} {r : List (Nat × Bool)} {a : Act} {w : World} {o : Oper} (ho : ops[i]? = some o) (hw : Region.wanted o (yielded ops a.tmps) = true)
    (h : ∀ K : Act → World → Prop, (∀ a w', wpOrd P ops C Lq r a w' → K a w') → mixUpon P C (fun v w' => K (a.put o.dst v) w') ((execOp a.eval o).run P w)) : wpOrd P ops C Lq ((i, false) :: r) a w := by
  have := h _ (fun _ _ h => h)
  show mOp P ops C i _ a w
  unfold mOp
  simp only [ho, hw, if_true]
  exact this
theorem ord_sole_skip {Lq : Act → World → Prop} {i : Nat} {r : List (Nat × Bool)} {a : Act} {w : World} {o : Oper} (ho : ops[i]? = some o) (hw : Region.wanted o (yielded ops a.tmps) = false)
    (h : ∀ K : Act → World → Prop, (∀ a w', wpOrd P ops C Lq r a w' → K a w') → K (a.put o.dst undef) w) : wpOrd P ops C Lq ((i, false) :: r) a w := by
  show mOp P ops C i _ a w
  unfold mOp
  simp only [ho, hw, Bool.false_eq_true, if_false]
  exact h _ (fun _ _ h => h)
end
end Go.Proofs.YtonfaojmphidpaaGreatDoor
