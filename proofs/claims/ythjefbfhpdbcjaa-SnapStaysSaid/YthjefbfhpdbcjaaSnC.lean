/- Layer 3: what holds of the snaps and of what each read. -/
import Derived.Test.YthjefbfhpdbcjaaSnM
import Derived.Test.YthjefbfhpdbcjaaSoK
namespace Go.Proofs.Ythjefbfhpdbcjaa
open Go.RowKit
set_option linter.unusedVariables false
set_option linter.unusedSimpArgs false

theorem withL_nodup {xs : List Int} (h : xs.Nodup) (n : Int) : (withL xs n).Nodup := by
  unfold withL; split
  · exact h
  · rename_i hn
    rw [List.nodup_append]
    exact ⟨h, by simp, fun a ha b hb => by simp at hb; subst hb; exact fun e => hn (e ▸ ha)⟩
theorem ofL_nodup (xs : List Int) : (ofL xs).Nodup := by
  suffices h : ∀ (xs ys : List Int), ys.Nodup → (xs.foldl withL ys).Nodup from h xs [] List.nodup_nil
  intro xs
  induction xs with
  | nil => intro ys h; exact h
  | cons x xs ih => intro ys h; exact ih _ (withL_nodup h x)
theorem ofL_len (xs : List Int) : (ofL xs).length ≤ xs.length := by have := ofL_length xs xs.length; rwa [List.take_length] at this
theorem mem_withL_self (xs : List Int) (n : Int) : n ∈ withL xs n := by
  unfold withL; split
  · assumption
  · simp
theorem not_mem_erase {xs : List Int} (h : xs.Nodup) (n : Int) : n ∉ xs.erase n := fun hm => by
  rw [h.erase_eq_filter] at hm; simp at hm

/-- A snap (where it lies, its room), what it read when it was made (where that lies, its room), and the numbers. -/
structure En where
  sa : Option Addr
  sc : Nat
  wa : Option Addr
  wc : Nat
  xs : List Int
instance : Inhabited En := ⟨⟨none, 0, none, 0, []⟩⟩
def En.cs (e : En) : Value := .slice e.sa e.xs.length e.sc
def En.cw (e : En) : Value := .slice e.wa e.xs.length e.wc
/-- The blocks of two rows of one's own. -/
def Touch (v u : Value) : Nat → Prop := fun k => v.ownBlock = some k ∨ u.ownBlock = some k
structure Good (w : World) (v u : Value) (e : En) : Prop where
  s : Sl .u64 w e.sa e.sc e.xs
  t : Sl .u64 w e.wa e.wc e.xs
  nd : e.xs.Nodup
  ns : ∀ q, e.sa = some q → 0 < e.xs.length → ¬ Touch v u q.block
  nt : ∀ q, e.wa = some q → 0 < e.xs.length → ¬ Touch v u q.block
structure St (base : Nat) (w : World) (L : List En) (A : Option Addr) (c : Nat) (D : Option Addr) (d : Nat) : Prop where
  ra : w.ownsRow base 26 1 (.slice A L.length c) L.length (L.map En.cs)
  rb : w.ownsRow base 22 1 (.slice D L.length d) L.length (L.map En.cw)
  good : ∀ e ∈ L, Good w (.slice A L.length c) (.slice D L.length d) e
  le : ∀ e ∈ L, e.xs.length ≤ 100 + L.length
theorem Good.below {w w' : World} {v u : Value} {e : En} (h : Good w v u e) (hb : Below w.heap.size w w') : Good w' v u e := ⟨h.s.below hb, h.t.below hb, h.nd, h.ns, h.nt⟩
theorem St.below {base : Nat} {w w' : World} {L : List En} {A : Option Addr} {c : Nat} {D : Option Addr} {d : Nat} (h : St base w L A c D d) (hb : Below w.heap.size w w') : St base w' L A c D d :=
  ⟨own_below h.ra hb, own_below h.rb hb, fun e he => (h.good e he).below hb, h.le⟩
theorem St.nil (base : Nat) (w : World) : St base w [] none 0 none 0 := ⟨World.ownsRow_nil _ _ _ _, World.ownsRow_nil _ _ _ _, (fun e he => nomatch he), (fun e he => nomatch he)⟩
/-- One snap v more, and what it read. -/
structure Reg (base : Nat) (W w : World) (n : Nat) (ca cb : List Value) (A : Option Addr) (c : Nat) (D : Option Addr) (d : Nat) (v : Value) (xs : List Int) (A1 : Option Addr) (c1 : Nat) (D1 : Option Addr) (d1 : Nat) (wa : Option Addr) (wc : Nat) : Prop where
  gr : Grew W w (Touch (.slice A n c) (.slice D n d))
  ra : w.ownsRow base 26 1 (.slice A1 (n + 1) c1) (n + 1) (ca ++ [v])
  la : (Value.slice A1 (n + 1) c1).ownBlock = (Value.slice A n c).ownBlock ∨ ∃ b, (Value.slice A1 (n + 1) c1).ownBlock = some b ∧ W.heap.size ≤ b
  rb : w.ownsRow base 22 1 (.slice D1 (n + 1) d1) (n + 1) (cb ++ [.slice wa xs.length wc])
  lb : (Value.slice D1 (n + 1) d1).ownBlock = (Value.slice D n d).ownBlock ∨ ∃ b, (Value.slice D1 (n + 1) d1).ownBlock = some b ∧ W.heap.size ≤ b
  ro : w.ownsRow W.heap.size 31 1 (.slice wa xs.length wc) xs.length (nums .u64 xs)
theorem ownBlock_some {q : Addr} {n c : Nat} : (Value.slice (some q) n c).ownBlock = some q.block := rfl
theorem St.step {base : Nat} {W w : World} {L : List En} {A : Option Addr} {c : Nat} {D : Option Addr} {d : Nat} (h : St base W L A c D d) {sa : Option Addr} {sc : Nat} {xs : List Int}
    (hs : Sl .u64 W sa sc xs) (hd : xs.Nodup) (hn : ∀ q, sa = some q → 0 < xs.length → ¬ Touch (.slice A L.length c) (.slice D L.length d) q.block) (hl : xs.length ≤ 101 + L.length)
    {A1 : Option Addr} {c1 : Nat} {D1 : Option Addr} {d1 : Nat} {wa : Option Addr} {wc : Nat} (hr : Reg base W w L.length (L.map En.cs) (L.map En.cw) A c D d (.slice sa xs.length sc) xs A1 c1 D1 d1 wa wc) :
    St base w (L ++ [⟨sa, sc, wa, wc, xs⟩]) A1 c1 D1 d1 := by
  have el : (L ++ [(⟨sa, sc, wa, wc, xs⟩ : En)]).length = L.length + 1 := by simp
  have hk : ∀ k, k < W.heap.size → Touch (.slice A1 (L.length + 1) c1) (.slice D1 (L.length + 1) d1) k → Touch (.slice A L.length c) (.slice D L.length d) k := by
    rintro k hlt (hk | hk)
    · rcases hr.la with h1 | ⟨b, h1, h2⟩
      · exact .inl (h1.symm.trans hk)
      · rw [h1] at hk; injection hk; omega
    · rcases hr.lb with h1 | ⟨b, h1, h2⟩
      · exact .inr (h1.symm.trans hk)
      · rw [h1] at hk; injection hk; omega
  have lt : ∀ (a : Option Addr) (cp : Nat) (ys : List Int), Sl .u64 W a cp ys → ∀ q, a = some q → 0 < ys.length → q.block < W.heap.size := by
    intro a cp ys hy q hq h0
    obtain ⟨b, off, ha, hb, _⟩ := hy.at_ h0
    rw [hq] at ha; injection ha with ha; subst ha; exact hb
  refine ⟨by rw [el, List.map_append]; exact hr.ra, by rw [el, List.map_append]; exact hr.rb, fun e he => ?_, fun e he => ?_⟩
  · rw [el]
    rcases List.mem_append.1 he with he | he
    · have hg := h.good e he
      exact ⟨Rd.grew hg.s hr.gr hg.ns, Rd.grew hg.t hr.gr hg.nt, hg.nd, fun q hq h0 ht => hg.ns q hq h0 (hk _ (lt _ _ _ hg.s q hq h0) ht), fun q hq h0 ht => hg.nt q hq h0 (hk _ (lt _ _ _ hg.t q hq h0) ht)⟩
    · simp only [List.mem_singleton] at he
      subst he
      refine ⟨Rd.grew hs hr.gr hn, own_rd hr.ro, hd, fun q hq h0 ht => hn q hq h0 (hk _ (lt _ _ _ hs q hq h0) ht), fun q hq h0 ht => ?_⟩
      dsimp only at hq h0
      subst hq
      rcases ht with ht | ht
      · exact own_apart2 hr.ro hr.ra (by decide) ownBlock_some ht
      · exact own_apart2 hr.ro hr.rb (by decide) ownBlock_some ht
  · rw [el]
    rcases List.mem_append.1 he with he | he
    · have := h.le e he; omega
    · simp only [List.mem_singleton] at he
      subst he; dsimp only; omega
/-- A row of another kind of cells stays where one row has grown. -/
theorem own_other {w w1 : World} {base n : Nat} {e : TypeId} {size : Nat} {v : Value} {xs : List Value} {base' n' : Nat} {e' : TypeId} {size' : Nat} {v' : Value} {xs' : List Value}
    (h : w.ownsRow base' e' size' v' n' xs') (ho : w.ownsRow base e size v n xs) (hg : w.grownBy w1 v.ownBlock) (ht : e ≠ e') : w1.ownsRow base' e' size' v' n' xs' :=
  own_grew h (Grew.of_grown hg (S := fun k => v.ownBlock = some k) (fun _ h => h)) (fun k hk hk' => own_apart2 ho h ht hk' hk)
theorem Grew.up {W w w' : World} {T : Nat → Prop} (h : Grew W w T) (hb : Below w.heap.size w w') : Grew W w' T := h.trans (Grew.of_below hb T) (fun _ _ h => h)
theorem Grew.grown {W w w' : World} {T : Nat → Prop} {r : Option Nat} (h : Grew W w T) (hb : w.grownBy w' r) (hr : ∀ k, r = some k → T k ∨ W.heap.size ≤ k) : Grew W w' T :=
  h.trans (Grew.of_grown hb (S := fun k => r = some k) (fun _ h => h)) (fun k hk h => (hr k h).elim id (fun h => absurd h (by omega)))
theorem Try.infoSnap : (Try.prog.info? 26).map (fun i => (i.zero, i.size, i.bytes)) = some (some (.agg #[.slice none 0 0]), 1, 24) := by kernel_rfl
theorem Try.infoSl : (Try.prog.info? 22).map (fun i => (i.zero, i.size, i.bytes)) = some (some (.slice none 0 0), 1, 24) := by kernel_rfl
/-- What a row of one's own holds at a place. -/
theorem St.at_ {base : Nat} {w : World} {L : List En} {A : Option Addr} {c : Nat} {D : Option Addr} {d : Nat} (h : St base w L A c D d) {i : Nat} (hi : i < L.length) :
    ∃ ba bd, A = some ⟨ba, 0, none⟩ ∧ D = some ⟨bd, 0, none⟩ ∧ base ≤ ba ∧ base ≤ bd ∧ ba < w.heap.size ∧ bd < w.heap.size ∧ w.cell? ⟨ba, i, none⟩ = some (L.getD i default).cs ∧ w.cell? ⟨bd, i, none⟩ = some (L.getD i default).cw := by
  obtain ⟨ba, ca, rfl, ha1, ha2, ha3, ha4, _, ha5⟩ := own_at h.ra (by omega)
  obtain ⟨bd, cd, rfl, hd1, hd2, hd3, hd4, _, hd5⟩ := own_at h.rb (by omega)
  refine ⟨ba, bd, rfl, rfl, ha1, hd1, ha2.lt, hd2.lt, ?_, ?_⟩
  · rw [ha2.cell, ha5 i (by omega), List.getElem?_map, List.getD_eq_getElem?_getD, List.getElem?_eq_getElem hi]; rfl
  · rw [hd2.cell, hd5 i (by omega), List.getElem?_map, List.getD_eq_getElem?_getD, List.getElem?_eq_getElem hi]; rfl
theorem St.get {base : Nat} {w : World} {L : List En} {A : Option Addr} {c : Nat} {D : Option Addr} {d : Nat} (h : St base w L A c D d) {i : Nat} (hi : i < L.length) : Good w (.slice A L.length c) (.slice D L.length d) (L.getD i default) ∧ (L.getD i default).xs.length ≤ 100 + L.length :=
  ⟨h.good _ (getD_mem hi), h.le _ (getD_mem hi)⟩
set_option maxHeartbeats 1000000 in
theorem snap_With2 (a : Option Addr) (cap : Nat) (xs : List Int) (n : Int) (w : World) (h : Sl .u64 w a cap xs) (hl : xs.length ≤ 100000) :
    Calls Try.prog 7 #[.agg #[.slice a xs.length cap], .int .u64 n] w fun e w' => ∃ a' cap', e = .returned (.agg #[.slice a' (withL xs n).length cap']) ∧ Sl .u64 w' a' cap' (withL xs n) ∧ ((n ∈ xs ∧ a' = a) ∨ ∀ q, a' = some q → w.heap.size ≤ q.block) ∧ Below w.heap.size w w' := by
  have HS : ∀ w1, Below w.heap.size w w1 → Sl .u64 w1 a cap xs := fun w1 hb => h.below hb
  have HH := Lib.hid HS
  clear HS
  by_cases hm : n ∈ xs
  · have e : withL xs n = xs := if_pos hm
    rw [e]; clear e
    have hi : 0 ≤ idxI xs n := by have := (not_congr (idxI_neg (xs := xs) (n := n))).2 (by simpa using hm); omega
    go_enter Try.func7, Try.ntmps7
    go_wp2_with (go_at_call 9; refine (snap_Index _ _ _ _ _ (HH.out _ (by exact ((Below.refl w.heap.size w).alloc (Nat.le_refl _) _).alloc (by simp) _)) (by omega)).mono ?_; rintro e w1 ⟨rfl, hb⟩; obtain ⟨bc, bf⟩ := bcell hb; have hz := hb.size)
    refine bodyPost_ret (v := .agg #[.slice a xs.length cap]) (by simp [results, Try.results7, go_sem, bc, bf]) rfl ?_
    have hB := below_step (((Below.refl w.heap.size w).alloc (Nat.le_refl _) _).alloc (by simp) _) (by simp; omega) hb
    exact ⟨a, cap, rfl, HH.out _ (hB.setCell (by simp) _), .inl ⟨hm, rfl⟩, hB.setCell (by simp) _⟩
  · have e : withL xs n = xs ++ [n] := if_neg hm
    rw [e]; clear e
    have hi : idxI xs n < 0 := idxI_neg.2 hm
    go_enter Try.func7, Try.ntmps7
    go_wp2_with (first | (go_at_call 9; refine (snap_Index _ _ _ _ _ (HH.out _ (by exact ((Below.refl w.heap.size w).alloc (Nat.le_refl _) _).alloc (by simp) _)) (by omega)).mono ?_; rintro e w1 ⟨rfl, hb⟩; obtain ⟨bc, bf⟩ := bcell hb; have hz := hb.size) | (go_at_call 16; refine (slices_Clip_u64 _ _ _ _ (HH.out _ (by exact below_step (((Below.refl w.heap.size w).alloc (Nat.le_refl _) _).alloc (by simp) _) (by simp; omega) hb)) (by omega)).mono ?_; rintro e w' ⟨rfl, rfl⟩) | (at_builtin; refine app_grow_one w1 rfl _ _ 22 rfl 31 (.int .u64 0) 1 8 Try.underlying22 Try.infoU rfl (by decide) a xs.length (nums .u64 xs) rfl (by exact (HH.out _ (below_step (((Below.refl w.heap.size w).alloc (Nat.le_refl _) _).alloc (by simp) _) (by simp; omega) hb)).clip) [.int .u64 n] rfl rfl (by simp [Value.oneCell']) (by omega) (by omega) ?_; intro A1 c1 w2 ho hb2; obtain ⟨bc2, bf2⟩ := bcell hb2; have hz2 := hb2.size; have hz3 : w.heap.size + 1 < w1.heap.size := by (simp only [World.size_alloc] at hz; omega)))
    have hlen : (xs ++ [n]).length = xs.length + 1 := by simp
    have hB := below_step (((Below.refl w.heap.size w).alloc (Nat.le_refl _) _).alloc (by simp) _) (by simp; omega) hb
    have hB2 := below_step hB (by omega) hb2
    rw [hlen]
    refine bodyPost_ret (v := .agg #[.slice A1 (xs.length + 1) c1]) (by simp [results, Try.results7, go_sem, bc, bf, bc2, bf2, hz3]) rfl ?_
    have ho2 : Rd 1 w2 A1 (xs.length + 1) c1 (nums .u64 (xs ++ [n])) := by
      rw [show nums .u64 (xs ++ [n]) = nums .u64 xs ++ [.int .u64 n] by simp [nums]]
      exact own_rd ho
    refine ⟨A1, c1, rfl, ?_, .inr fun q hq => by (subst hq; have := own_addr ho; omega), hB2.setCell (by simp) _⟩
    unfold Sl
    rw [hlen]
    exact ho2.far (fun q hq => by subst hq; have := own_addr ho; simp; omega) _

theorem Sl.box {k : IntKind} {w : World} {a : Option Addr} {cap : Nat} {xs : List Int} (h : Sl k w a cap xs) {g : Nat} {t : TypeId} {x : Option Addr} {y z : Nat} (hb : Blk w g t #[.slice x y z]) (u : Value) : Sl k (w.setCell ⟨g, 0, none⟩ u) a cap xs := by
  by_cases h0 : xs = []
  · subst h0; exact ⟨h.1, h.2.1, h.2.2.1, fun h => absurd h (by simp)⟩
  · obtain ⟨b, off, ha, hb', hc⟩ := h.at_ (List.length_pos_iff.2 h0)
    refine Rd.far h (fun q hq => ?_) u
    rw [ha] at hq; cases hq
    intro e
    dsimp only at e
    subst e
    have h1 := hb.cell off
    have h2 := hc 0 (List.length_pos_iff.2 h0)
    rw [Nat.add_zero, h1] at h2
    cases off with
    | zero => simp at h2
    | succ n => simp at h2
theorem mix_app {P : Program} {C : World → Prop} {K : Value → World → Prop} {a : Act} {o : Oper} {s x : Operand} {t : TypeId} {v u r : Value} {w w1 : World} (ho : o.op = .call { callee := .builtin .append, args := #[s, x], argTypes := #[t, t] })
    (hs : a.eval s = v) (hx : a.eval x = u) (hrun : (Builtin.append_ #[t, t] o.type #[v, u]).run P w = .ok r w1) (hC : C w1) (hK : K r w1) : mixUpon P C K ((execOp a.eval o).run P w) := by
  unfold execOp
  simp only [ho, resolve, invoke, builtin, Sem.run_bind, Sem.run_pure, Result.andThen_ok, List.map_toArray, List.map_cons, List.map_nil, hs, hx, hrun]
  exact ⟨hC, hK⟩
/-- What the next snap is, before it is put behind the others. -/
structure Nx (wr wx : World) (T : Nat → Prop) (l : Nat) (an : Int) (ao : Bool) (gn : Nat) (a' : Option Addr) (c' : Nat) (ys : List Int) : Prop where
  bn : Blk wx gn 26 #[.slice a' ys.length c']
  ba : Blk wx wr.heap.size 33 #[.int .u64 an, .bool ao]
  s : Sl .u64 wx a' c' ys
  nd : ys.Nodup
  le : ys.length ≤ 101 + l
  nt : ∀ q, a' = some q → 0 < ys.length → ¬ T q.block
  ix : (decide (idxI ys an < 0) != ao) = false
  b : RowKit.Below wr.heap.size wr wx
  gl : wr.heap.size < gn
theorem touch_lt {w : World} {base n n' s s' : Nat} {e e' : TypeId} {v u : Value} {cs ds : List Value} (h : w.ownsRow base e s v n cs) (h' : w.ownsRow base e' s' u n' ds) : ∀ k, Touch v u k → base ≤ k ∧ k < w.heap.size := by
  rintro k (hk | hk)
  · exact h.lt k hk
  · exact h'.lt k hk
end Go.Proofs.Ythjefbfhpdbcjaa
