/- CellOne: alone, from the entry to the loop. -/
import Derived.Test.YtdemidfpoojkdaaCoE
import Derived.Test.YtdemidfpoojkdaaCoS
namespace Go.Proofs.Ytdemidfpoojkdaa.Co
open Go.Conc Go.ConcN Go.RowKit Go.Conc.Lib Go.ConcR.Gen Go.ConcN.Gen
open Go.ConcR (KK WgAt stA smA rd wr mk DC0 ofEvent_cell)
set_option linter.unusedVariables false
set_option linter.unusedSimpArgs false
noncomputable def body3 : Code := Try.f3.body.getD .skip
theorem de0 {E : Event → Prop} {w : World} : DE E w w #[] := fun e he => by simp at he
section
variable {N n j : Nat} {x st : Int}
/-- A cell that no other goroutine has been handed. -/
theorem ok0_own (b o : Nat) (y : Bool) (h : b ≠ N + 6 ∧ b ≠ N + 3 ∧ b ≠ N + 5) {s : Bool} : (env N x st n).ok0 0 ⟨.cell ⟨b, o, none⟩, y, s⟩ := by
  refine ⟨fun fn pos => ⟨rfl, fun z hz => ?_⟩, by simp, by simp, by simp⟩
  simp only [ofEvent_cell, MemAct.touch?, Option.some.injEq] at hz
  subst hz
  exact .inr ⟨fun ⟨a', e, hs⟩ => (by cases e; rw [three_iff] at hs; simp at hs; omega), fun _ _ _ h => h, fun _ k h1 h2 => by omega⟩
/-- An atomic access, wherever. -/
theorem ok0_at (b : Nat) (y : Bool) (h : True) : (env N x st n).ok0 0 ⟨.cell ⟨b, 0, none⟩, y, true⟩ := by
  by_cases hb : b = N + 6 ∨ b = N + 3 ∨ b = N + 5
  · exact ok0_atom' hb
  · exact ok0_own b 0 y (by omega)
end
noncomputable def bodyAw : Code := Try.f4.body.getD .skip
section
variable {W : World} {x st : Int} {n : Nat} {b₀ : Frame} {a₀ : Act} {ops₀ : Array Oper} {i₀ : Nat} {rest₀ : List Nat} {k₀ : List Item} {cs : List Frame} {mT : Nat}
set_option maxRecDepth 100000 in
set_option maxHeartbeats 8000000 in
/-- The example, alone. -/
theorem awake_alone {Stop : Goroutine → World → Prop}
    (hT : Goes Try.prog true Eq (DE ((env W.heap.size x st n).ok0 0)) Stop mT (G (b₀.at (a₀.put ((ops₀[i₀]?).bind (·.dst)) (.bool true)) (.inRegion ops₀ rest₀ :: k₀)) cs) (((W.alloc (.cells #[.int .u64 x] 22)).alloc (.cells #[.int .u8 st] 5)).alloc (.cells #[.int .u64 25] 47))) :
    Goes Try.prog true Eq (DE ((env W.heap.size x st n).ok0 0)) Stop (mT + 2000)
      (G ((base 4).at ⟨#[undef, undef, undef, undef, undef, undef, undef, undef, undef, undef, undef, undef, undef, undef, undef, undef, undef, undef, undef, undef, undef, undef, undef, undef, undef, undef, undef, undef, undef, undef, undef, undef, undef, undef, undef], []⟩ [.code bodyAw]) (b₀.at a₀ (.inRegion ops₀ (i₀ :: rest₀) :: k₀) :: cs)) ((W.alloc (.cells #[.int .u64 x] 22)).alloc (.cells #[.int .u8 st] 5)) := by
  have hev := ev_nil
  have hei := ev_if
  simp only [bodyAw, Try.f4, Option.getD_some]
  repeat (refine Goes.step rfl (fun _ h₁ => ?_); subst h₁; first
    | (rw [stepG_seq]; simp only [goes_go]; refine ⟨de0, ?_⟩)
    | (rw [stepG_region_end]; simp only [goes_go]; refine ⟨de0, ?_⟩)
    | (rw [stepG_skip]; simp only [goes_go]; refine ⟨de0, ?_⟩)
    | (rw [stepG_ret']; simp only [goes_go]; refine ⟨de0, ?_⟩)
    | (rw [stepG_block]; simp only [goes_go]; refine ⟨de0, ?_⟩)
    | (rw [stepG_loop]; simp only [goes_go]; refine ⟨de0, ?_⟩)
    | (rw [stepG_inBlock]; simp only [goes_go]; refine ⟨de0, ?_⟩)
    | (rw [stepG_inLoop]; simp only [goes_go]; refine ⟨de0, ?_⟩)
    | (rw [stepG_end]; simp only [goes_go]; refine ⟨de0, ?_⟩)
    | (rw [stepG_region]; simp only [goes_go, List.size_toArray, List.length_cons, List.length_nil, Nat.reduceAdd, Nat.zero_add, List.range, List.range.loop]; refine ⟨de0, ?_⟩)
    | (rw [stepG_cond (t := true) rfl]; simp only [goes_go, if_true, if_false, Bool.false_eq_true, ↓reduceIte]; refine ⟨de0, ?_⟩)
    | (rw [stepG_cond (t := false) rfl]; simp only [goes_go, if_true, if_false, Bool.false_eq_true, ↓reduceIte]; refine ⟨de0, ?_⟩)
    | (rw [stepG_unwanted rfl rfl]; simp only [goes_go]; refine ⟨de0, ?_⟩; walk_nrm)
    | (refine goes_oper_k rfl rfl (by decide) (fun K hK => ?_); go_simp; refine hK _ _ ⟨?_, ?_⟩; (focus (intro e he; have hm := mem_listed he; simp [go_sem, storedEv, *] at hm; all_goals (subst hm; exact ok0_own _ _ _ (by simp)))); clear hK K)
    | (rw [stepG_store_atomic (u := .int .u64 0) rfl rfl (by decide) rfl Try.wgLib.f_storeU64 (x_storeU64_n Try.link) (x_storeU64_b Try.link) (x_storeU64_x Try.link) (x_storeU64_f Try.link) rfl rfl (by simp [go_sem]) (by simp [go_sem])]; simp only [goes_go]; refine ⟨?_, ?_⟩; (focus (intro e he; simp at he; subst he; exact ok0_at _ _ (by simp))); walk_nrm)
    | (refine goes_oper_k rfl rfl (by decide) (fun K hK => ?_); go_simp; refine hK _ _ ⟨?_, ?_⟩; (focus (rw [listed_nil (by simp [go_sem, *])]; exact de0)); clear hK K)
    | (refine goes_leave1 rfl rfl Try.func4 rfl ⟨de0, ?_⟩; walk_nrm)
    | (refine goes_leave1 rfl rfl Try.func5 rfl ⟨de0, ?_⟩; walk_nrm)
    | (refine goes_leave0 rfl rfl Try.func15 rfl ⟨de0, ?_⟩; walk_nrm)
    | (refine goes_leave2 rfl rfl Try.func8 rfl ⟨de0, ?_⟩; walk_nrm)
    | (refine goes_call rfl rfl (by decide) rfl Try.func4 (by rfl) rfl ⟨de0, ?_⟩; walk_nrmf Try.f4)
    | (refine goes_call rfl rfl (by decide) rfl Try.func5 (by rfl) rfl ⟨de0, ?_⟩; walk_nrmf Try.f5)
    | (refine goes_call rfl rfl (by decide) rfl Try.func15 (by rfl) rfl ⟨de0, ?_⟩; walk_nrmf Try.f15)
    | (refine goes_call rfl rfl (by decide) rfl Try.func8 (by rfl) rfl ⟨de0, ?_⟩; walk_nrmf Try.f8)
    | (refine goes_exit rfl ?_; refine ⟨de0, ?_⟩))
  refine Goes.step rfl (fun _ h₁ => ?_); subst h₁
  refine goes_call rfl rfl (by decide) rfl Try.func11 (by rfl) rfl ⟨de0, ?_⟩
  walk_nrmf Try.f11
  refine Goes.mono (to_g (I := (· = _)) (mT := mT + 1700) (fun _ _ r h => r.symm.trans h) (fun _ => de0) 20 1 (by decide) (by decide) (by decide) (by decide) (fun w hw => ?_) _ rfl) (by omega)
  subst hw
  rw [show wTo 20 1 = 25 from by decide, show wMay (20 % 4) 1 = true from by decide]
  walk_nrm
  repeat (refine Goes.step rfl (fun _ h₁ => ?_); subst h₁; first
    | (rw [stepG_seq]; simp only [goes_go]; refine ⟨de0, ?_⟩)
    | (rw [stepG_region_end]; simp only [goes_go]; refine ⟨de0, ?_⟩)
    | (rw [stepG_skip]; simp only [goes_go]; refine ⟨de0, ?_⟩)
    | (rw [stepG_ret']; simp only [goes_go]; refine ⟨de0, ?_⟩)
    | (rw [stepG_block]; simp only [goes_go]; refine ⟨de0, ?_⟩)
    | (rw [stepG_loop]; simp only [goes_go]; refine ⟨de0, ?_⟩)
    | (rw [stepG_inBlock]; simp only [goes_go]; refine ⟨de0, ?_⟩)
    | (rw [stepG_inLoop]; simp only [goes_go]; refine ⟨de0, ?_⟩)
    | (rw [stepG_end]; simp only [goes_go]; refine ⟨de0, ?_⟩)
    | (rw [stepG_region]; simp only [goes_go, List.size_toArray, List.length_cons, List.length_nil, Nat.reduceAdd, Nat.zero_add, List.range, List.range.loop]; refine ⟨de0, ?_⟩)
    | (rw [stepG_cond (t := true) rfl]; simp only [goes_go, if_true, if_false, Bool.false_eq_true, ↓reduceIte]; refine ⟨de0, ?_⟩)
    | (rw [stepG_cond (t := false) rfl]; simp only [goes_go, if_true, if_false, Bool.false_eq_true, ↓reduceIte]; refine ⟨de0, ?_⟩)
    | (rw [stepG_unwanted rfl rfl]; simp only [goes_go]; refine ⟨de0, ?_⟩; walk_nrm)
    | (refine goes_oper_k rfl rfl (by decide) (fun K hK => ?_); go_simp; refine hK _ _ ⟨?_, ?_⟩; (focus (rw [listed_nil (by simp [go_sem, *])]; exact de0)); clear hK K)
    | (refine goes_leave1 rfl rfl Try.func20 rfl ⟨de0, ?_⟩; walk_nrm)
    | (refine goes_call rfl rfl (by decide) rfl Try.func20 (by rfl) rfl ⟨de0, ?_⟩; walk_nrmf Try.f20)
    | (refine goes_exit rfl ?_; refine ⟨de0, ?_⟩))
  refine Goes.step rfl (fun _ h₁ => ?_); subst h₁
  rw [stepG_cas_hit (ad := ⟨W.heap.size + 2, 0, none⟩) (v := 20) (n := 25) rfl rfl (by decide) rfl Try.wgLib.f_casU64 (x_casU64_n Try.link) (x_casU64_b Try.link) (x_casU64_x Try.link) .u64 (x_casU64_f Try.link) rfl rfl rfl (by simp [go_sem]) (by simp [go_sem])]
  simp only [goes_go]
  refine ⟨?_, ?_⟩
  · intro e he; simp at he; rcases he with rfl | rfl <;> exact ok0_at _ _ trivial
  walk_nrm
  rw [show ((((W.alloc (.cells #[.int .u64 x] 22)).alloc (.cells #[.int .u8 st] 5)).alloc (.cells #[.int .u64 20] 47)).setCell ⟨W.heap.size + 2, 0, none⟩ (.int .u64 25) : World) = ((W.alloc (.cells #[.int .u64 x] 22)).alloc (.cells #[.int .u8 st] 5)).alloc (.cells #[.int .u64 25] 47) from by simp [go_sem]]
  repeat (refine Goes.step rfl (fun _ h₁ => ?_); subst h₁; first
    | (rw [stepG_seq]; simp only [goes_go]; refine ⟨de0, ?_⟩)
    | (rw [stepG_region_end]; simp only [goes_go]; refine ⟨de0, ?_⟩)
    | (rw [stepG_skip]; simp only [goes_go]; refine ⟨de0, ?_⟩)
    | (rw [stepG_ret']; simp only [goes_go]; refine ⟨de0, ?_⟩)
    | (rw [stepG_block]; simp only [goes_go]; refine ⟨de0, ?_⟩)
    | (rw [stepG_loop]; simp only [goes_go]; refine ⟨de0, ?_⟩)
    | (rw [stepG_inBlock]; simp only [goes_go]; refine ⟨de0, ?_⟩)
    | (rw [stepG_inLoop]; simp only [goes_go]; refine ⟨de0, ?_⟩)
    | (rw [stepG_end]; simp only [goes_go]; refine ⟨de0, ?_⟩)
    | (rw [stepG_region]; simp only [goes_go, List.size_toArray, List.length_cons, List.length_nil, Nat.reduceAdd, Nat.zero_add, List.range, List.range.loop]; refine ⟨de0, ?_⟩)
    | (rw [stepG_cond (t := true) rfl]; simp only [goes_go, if_true, if_false, Bool.false_eq_true, ↓reduceIte]; refine ⟨de0, ?_⟩)
    | (rw [stepG_cond (t := false) rfl]; simp only [goes_go, if_true, if_false, Bool.false_eq_true, ↓reduceIte]; refine ⟨de0, ?_⟩)
    | (rw [stepG_unwanted rfl rfl]; simp only [goes_go]; refine ⟨de0, ?_⟩; walk_nrm)
    | (refine goes_oper_k rfl rfl (by decide) (fun K hK => ?_); go_simp; refine hK _ _ ⟨?_, ?_⟩; (focus (rw [listed_nil (by simp [go_sem, *])]; exact de0)); clear hK K)
    | (refine goes_leave1 rfl rfl Try.func20 rfl ⟨de0, ?_⟩; walk_nrm)
    | (refine goes_leave2 rfl rfl Try.func8 rfl ⟨de0, ?_⟩; walk_nrm)
    | (refine goes_call rfl rfl (by decide) rfl Try.func20 (by rfl) rfl ⟨de0, ?_⟩; walk_nrmf Try.f20)
    | (refine goes_call rfl rfl (by decide) rfl Try.func8 (by rfl) rfl ⟨de0, ?_⟩; walk_nrmf Try.f8)
    | (refine goes_exit rfl ?_; refine ⟨de0, ?_⟩))
  refine Goes.step rfl (fun _ h₁ => ?_); subst h₁
  refine goes_call rfl rfl (by decide) rfl Try.func11 (by rfl) rfl ⟨de0, ?_⟩
  walk_nrmf Try.f11
  refine Goes.mono (to_g (I := (· = _)) (mT := mT + 1400) (fun _ _ r h => r.symm.trans h) (fun _ => de0) 20 1 (by decide) (by decide) (by decide) (by decide) (fun w hw => ?_) _ rfl) (by omega)
  subst hw
  rw [show wTo 20 1 = 25 from by decide, show wMay (20 % 4) 1 = true from by decide]
  walk_nrm
  repeat (refine Goes.step rfl (fun _ h₁ => ?_); subst h₁; first
    | (rw [stepG_seq]; simp only [goes_go]; refine ⟨de0, ?_⟩)
    | (rw [stepG_region_end]; simp only [goes_go]; refine ⟨de0, ?_⟩)
    | (rw [stepG_skip]; simp only [goes_go]; refine ⟨de0, ?_⟩)
    | (rw [stepG_ret']; simp only [goes_go]; refine ⟨de0, ?_⟩)
    | (rw [stepG_block]; simp only [goes_go]; refine ⟨de0, ?_⟩)
    | (rw [stepG_loop]; simp only [goes_go]; refine ⟨de0, ?_⟩)
    | (rw [stepG_inBlock]; simp only [goes_go]; refine ⟨de0, ?_⟩)
    | (rw [stepG_inLoop]; simp only [goes_go]; refine ⟨de0, ?_⟩)
    | (rw [stepG_end]; simp only [goes_go]; refine ⟨de0, ?_⟩)
    | (rw [stepG_region]; simp only [goes_go, List.size_toArray, List.length_cons, List.length_nil, Nat.reduceAdd, Nat.zero_add, List.range, List.range.loop]; refine ⟨de0, ?_⟩)
    | (rw [stepG_cond (t := true) rfl]; simp only [goes_go, if_true, if_false, Bool.false_eq_true, ↓reduceIte]; refine ⟨de0, ?_⟩)
    | (rw [stepG_cond (t := false) rfl]; simp only [goes_go, if_true, if_false, Bool.false_eq_true, ↓reduceIte]; refine ⟨de0, ?_⟩)
    | (rw [stepG_unwanted rfl rfl]; simp only [goes_go]; refine ⟨de0, ?_⟩; walk_nrm)
    | (refine goes_oper_k rfl rfl (by decide) (fun K hK => ?_); go_simp; refine hK _ _ ⟨?_, ?_⟩; (focus (rw [listed_nil (by simp [go_sem, *])]; exact de0)); clear hK K)
    | (refine goes_leave1 rfl rfl Try.func20 rfl ⟨de0, ?_⟩; walk_nrm)
    | (refine goes_call rfl rfl (by decide) rfl Try.func20 (by rfl) rfl ⟨de0, ?_⟩; walk_nrmf Try.f20)
    | (refine goes_exit rfl ?_; refine ⟨de0, ?_⟩))
  refine Goes.step rfl (fun _ h₁ => ?_); subst h₁
  rw [stepG_cas_miss (ad := ⟨W.heap.size + 2, 0, none⟩) (v := 25) (old := 20) (n := 25) rfl rfl (by decide) rfl Try.wgLib.f_casU64 (x_casU64_n Try.link) (x_casU64_b Try.link) (x_casU64_x Try.link) .u64 (x_casU64_f Try.link) rfl rfl rfl (by simp [go_sem]) (by simp [go_sem]) (by decide)]
  simp only [goes_go]
  refine ⟨?_, ?_⟩
  · intro e he; simp at he; subst he; exact ok0_at _ _ trivial
  walk_nrm
  repeat (refine Goes.step rfl (fun _ h₁ => ?_); subst h₁; first
    | (rw [stepG_seq]; simp only [goes_go]; refine ⟨de0, ?_⟩)
    | (rw [stepG_region_end]; simp only [goes_go]; refine ⟨de0, ?_⟩)
    | (rw [stepG_skip]; simp only [goes_go]; refine ⟨de0, ?_⟩)
    | (rw [stepG_ret']; simp only [goes_go]; refine ⟨de0, ?_⟩)
    | (rw [stepG_block]; simp only [goes_go]; refine ⟨de0, ?_⟩)
    | (rw [stepG_loop]; simp only [goes_go]; refine ⟨de0, ?_⟩)
    | (rw [stepG_inBlock]; simp only [goes_go]; refine ⟨de0, ?_⟩)
    | (rw [stepG_inLoop]; simp only [goes_go]; refine ⟨de0, ?_⟩)
    | (rw [stepG_end]; simp only [goes_go]; refine ⟨de0, ?_⟩)
    | (rw [stepG_region]; simp only [goes_go, List.size_toArray, List.length_cons, List.length_nil, Nat.reduceAdd, Nat.zero_add, List.range, List.range.loop]; refine ⟨de0, ?_⟩)
    | (rw [stepG_cond (t := true) rfl]; simp only [goes_go, if_true, if_false, Bool.false_eq_true, ↓reduceIte]; refine ⟨de0, ?_⟩)
    | (rw [stepG_cond (t := false) rfl]; simp only [goes_go, if_true, if_false, Bool.false_eq_true, ↓reduceIte]; refine ⟨de0, ?_⟩)
    | (rw [stepG_unwanted rfl rfl]; simp only [goes_go]; refine ⟨de0, ?_⟩; walk_nrm)
    | (rw [stepG_load_atomic (v := 25) rfl rfl (by decide) rfl Try.wgLib.f_loadU64 (x_loadU64_n Try.link) (x_loadU64_b Try.link) (x_loadU64_x Try.link) .u64 (x_loadU64_f Try.link) rfl (by simp [go_sem])]; simp only [goes_go]; refine ⟨?_, ?_⟩; (focus (intro e he; simp at he; subst he; exact ok0_at _ _ trivial)); walk_nrm)
    | (refine goes_oper_k rfl rfl (by decide) (fun K hK => ?_); go_simp; refine hK _ _ ⟨?_, ?_⟩; (focus (rw [listed_nil (by simp [go_sem, *])]; exact de0)); clear hK K)
    | (refine goes_leave1 rfl rfl Try.func20 rfl ⟨de0, ?_⟩; walk_nrm)
    | (refine goes_leave2 rfl rfl Try.func8 rfl ⟨de0, ?_⟩; walk_nrm)
    | (refine goes_leave1 rfl rfl Try.func13 rfl ⟨de0, ?_⟩; walk_nrm)
    | (refine goes_leave1 rfl rfl Try.func23 rfl ⟨de0, ?_⟩; walk_nrm)
    | (refine goes_call rfl rfl (by decide) rfl Try.func20 (by rfl) rfl ⟨de0, ?_⟩; walk_nrmf Try.f20)
    | (refine goes_call rfl rfl (by decide) rfl Try.func8 (by rfl) rfl ⟨de0, ?_⟩; walk_nrmf Try.f8)
    | (refine goes_call rfl rfl (by decide) rfl Try.func13 (by rfl) rfl ⟨de0, ?_⟩; walk_nrmf Try.f13)
    | (refine goes_call rfl rfl (by decide) rfl Try.func23 (by rfl) rfl ⟨de0, ?_⟩; walk_nrmf Try.f23)
    | (refine goes_exit rfl ?_; refine ⟨de0, ?_⟩))
  refine Goes.step rfl (fun _ h₁ => ?_); subst h₁
  refine goes_call rfl rfl (by decide) rfl Try.func14 (by rfl) rfl ⟨de0, ?_⟩
  walk_nrmf Try.f14
  refine Goes.mono (aw1_g (I := (· = _)) (mT := mT + 300) (fun _ _ r h => r.symm.trans h) (fun _ => de0) (fun w hw => ?_) _ rfl) (by omega)
  subst hw
  walk_nrm
  iterate 18 (refine Goes.step rfl (fun _ h₁ => ?_); subst h₁; first
    | (rw [stepG_seq]; simp only [goes_go]; refine ⟨de0, ?_⟩)
    | (rw [stepG_region_end]; simp only [goes_go]; refine ⟨de0, ?_⟩)
    | (rw [stepG_skip]; simp only [goes_go]; refine ⟨de0, ?_⟩)
    | (rw [stepG_ret']; simp only [goes_go]; refine ⟨de0, ?_⟩)
    | (rw [stepG_block]; simp only [goes_go]; refine ⟨de0, ?_⟩)
    | (rw [stepG_loop]; simp only [goes_go]; refine ⟨de0, ?_⟩)
    | (rw [stepG_inBlock]; simp only [goes_go]; refine ⟨de0, ?_⟩)
    | (rw [stepG_inLoop]; simp only [goes_go]; refine ⟨de0, ?_⟩)
    | (rw [stepG_end]; simp only [goes_go]; refine ⟨de0, ?_⟩)
    | (rw [stepG_region]; simp only [goes_go, List.size_toArray, List.length_cons, List.length_nil, Nat.reduceAdd, Nat.zero_add, List.range, List.range.loop]; refine ⟨de0, ?_⟩)
    | (rw [stepG_cond (t := true) rfl]; simp only [goes_go, if_true, if_false, Bool.false_eq_true, ↓reduceIte]; refine ⟨de0, ?_⟩)
    | (rw [stepG_cond (t := false) rfl]; simp only [goes_go, if_true, if_false, Bool.false_eq_true, ↓reduceIte]; refine ⟨de0, ?_⟩)
    | (rw [stepG_unwanted rfl rfl]; simp only [goes_go]; refine ⟨de0, ?_⟩; walk_nrm)
    | (refine goes_oper_k rfl rfl (by decide) (fun K hK => ?_); go_simp; refine hK _ _ ⟨?_, ?_⟩; (focus (rw [listed_nil (by simp [go_sem, *])]; exact de0)); clear hK K)
    | (refine goes_exit rfl ?_; refine ⟨de0, ?_⟩))
  refine Goes.step rfl (fun _ h₁ => ?_); subst h₁
  refine goes_leave1 rfl rfl Try.func4 rfl ⟨de0, ?_⟩
  walk_nrm
  exact Goes.mono hT (by omega)
end
end Go.Proofs.Ytdemidfpoojkdaa.Co
