/- CellOne: alone, from the entry to the head of the loop. -/
import Derived.Test.YtdemidfpoojkdaaCoQ
namespace Go.Proofs.Ytdemidfpoojkdaa.Co
open Go.Conc Go.ConcN Go.RowKit Go.Conc.Lib Go.ConcR.Gen Go.ConcN.Gen
open Go.ConcR (KK WgAt stA smA rd wr mk DC0 ofEvent_cell)
set_option linter.unusedVariables false
set_option linter.unusedSimpArgs false
def Code.snd : Code → Code | .seq _ c => c | c => c
def Code.fst : Code → Code | .seq c _ => c | c => c
def Code.inner : Code → Code | .block _ c => c | .loop c => c | c => c
noncomputable def S3 : Code := Code.snd (Code.snd (Code.snd (Code.snd (Code.snd body3))))
noncomputable def L3 : Code := Code.inner (Code.inner (Code.snd (Code.fst S3)))
noncomputable def R3 : Code := Code.snd S3
/-- The head of the loop: j workers are started. -/
def AtL (N : Nat) (n j : Nat) (g : Goroutine) : Prop :=
  ∃ T : Array Value, g = G ((base 3).at ⟨T, []⟩ [.code L3, .inLoop L3, .inBlock 0, .code R3]) [] ∧ T.size = 52 ∧ T[3]? = some (.pointer (some ⟨N, 0, none⟩)) ∧ T[4]? = some (.pointer (some ⟨N + 1, 0, none⟩)) ∧
    T[7]? = some (.pointer (some ⟨N + 4, 0, none⟩)) ∧ T[8]? = some (.pointer (some ⟨N + 5, 0, none⟩)) ∧ T[9]? = some (.pointer (some ⟨N + 6, 0, none⟩)) ∧ T[19]? = some (.int .i64 n) ∧ T[20]? = some (.int .i64 j)
theorem ev_store_ptr (w : World) (es : Array Event) (a : Addr) (m : Mode) (p : Option Addr) : (store a (.pointer p) m).events Try.prog w es = storedEv Try.prog w es a (.pointer p) m := events_store Try.prog w es a _ m rfl
/-- The call's own blocks ahead of the loop. -/
def W7 (W : World) (x st : Int) : World :=
  ((((((W.alloc (.cells #[.int .u64 x] 22)).alloc (.cells #[.int .u8 st] 5)).alloc (.cells #[.int .u64 25] 47)).alloc (.cells #[.int .u64 x] 47)).alloc (.cells #[.pointer (some ⟨W.heap.size + 3, 0, none⟩)] 24)).alloc (.cells #[.int .i64 0] 31)).alloc (.cells #[.int .u64 0, .int .u32 0] 37)
section
variable {W : World} {x st nn : Int}
set_option maxRecDepth 100000 in
set_option maxHeartbeats 8000000 in
theorem prologue (h0 : 0 ≤ x) (h1 : x < 18446744073709551616) (s0 : 0 ≤ st) (s1 : st < 256) (n0 : 0 ≤ nn) (n1 : nn < 256) {n : Nat} (hn : (n : Int) = nn % 16 + 1) {Stop : Goroutine → World → Prop}
    (hS : ∀ g, AtL W.heap.size n 0 g → Stop g (W7 W x st)) :
    Goes Try.prog true Eq (DE ((env W.heap.size x st n).ok0 0)) Stop 3000
      (G ((base 3).at ⟨#[.int .u64 x, .int .u8 st, .int .u8 nn, undef, undef, undef, undef, undef, undef, undef, undef, undef, undef, undef, undef, undef, undef, undef, undef, undef, undef, undef, undef, undef, undef, undef, undef, undef, undef, undef, undef, undef, undef, undef, undef, undef, undef, undef, undef, undef, undef, undef, undef, undef, undef, undef, undef, undef, undef, undef, undef, undef], []⟩ [.code body3]) []) W := by
  have hev := ev_nil
  have hei := ev_if
  have hsp := ev_store_ptr
  have e1 : nn.tmod 16 = nn % 16 := Int.tmod_eq_emod_of_nonneg n0
  have e2 : IntKind.i64.wrap (nn % 16) = nn % 16 := by rw [IntKind.wrap_i64]; omega
  have e3 : IntKind.i64.wrap (nn % 16 + 1) = (n : Int) := by rw [IntKind.wrap_i64]; omega
  clear hn
  simp only [body3, Try.f3, Option.getD_some]
  iterate 9 (refine Goes.step rfl (fun _ h₁ => ?_); subst h₁; first
    | (rw [stepG_seq]; simp only [goes_go]; refine ⟨de0, ?_⟩)
    | (rw [stepG_region_end]; simp only [goes_go]; refine ⟨de0, ?_⟩)
    | (rw [stepG_skip]; simp only [goes_go]; refine ⟨de0, ?_⟩)
    | (rw [stepG_ret']; simp only [goes_go]; refine ⟨de0, ?_⟩)
    | (rw [stepG_block]; simp only [goes_go]; refine ⟨de0, ?_⟩)
    | (rw [stepG_loop]; simp only [goes_go]; refine ⟨de0, ?_⟩)
    | (rw [stepG_inBlock]; simp only [goes_go]; refine ⟨de0, ?_⟩)
    | (rw [stepG_inLoop]; simp only [goes_go]; refine ⟨de0, ?_⟩)
    | (rw [stepG_end]; simp only [goes_go]; refine ⟨de0, ?_⟩)
    | (rw [stepG_region]; simp only [goes_go, List.size_toArray, List.length_cons, List.length_nil, Nat.reduceAdd, Nat.zero_add, List.range, List.range.loop]; refine ⟨de0, ?_⟩)
    | (rw [stepG_cond (t := true) rfl]; simp only [goes_go, if_true, if_false, Bool.false_eq_true, ↓reduceIte]; refine ⟨de0, ?_⟩)
    | (rw [stepG_cond (t := false) rfl]; simp only [goes_go, if_true, if_false, Bool.false_eq_true, ↓reduceIte]; refine ⟨de0, ?_⟩)
    | (rw [stepG_unwanted rfl rfl]; simp only [goes_go]; refine ⟨de0, ?_⟩; walk_nrm)
    | (refine goes_oper_k rfl rfl (by decide) (fun K hK => ?_); go_simp; refine hK _ _ ⟨?_, ?_⟩; (focus (intro e he; have hm := mem_listed he; simp [go_sem, storedEv, *] at hm; all_goals (subst hm; exact ok0_own _ _ _ (by simp)))); clear hK K)
    | (refine goes_oper_k rfl rfl (by decide) (fun K hK => ?_); go_simp; refine hK _ _ ⟨?_, ?_⟩; (focus (rw [listed_nil (by simp [go_sem, *])]; exact de0)); clear hK K)
    | (refine goes_exit rfl ?_; refine ⟨de0, ?_⟩))
  refine Goes.step rfl (fun _ h₁ => ?_); subst h₁
  refine goes_call rfl rfl (by decide) rfl Try.func4 (by rfl) rfl ⟨de0, ?_⟩
  walk_nrmf Try.f4
  refine Goes.mono (awake_alone (n := n) (mT := 900) ?_) (by omega)
  walk_nrm
  iterate 64 (refine Goes.step rfl (fun _ h₁ => ?_); subst h₁; first
    | (rw [stepG_seq]; simp only [goes_go]; refine ⟨de0, ?_⟩)
    | (rw [stepG_region_end]; simp only [goes_go]; refine ⟨de0, ?_⟩)
    | (rw [stepG_skip]; simp only [goes_go]; refine ⟨de0, ?_⟩)
    | (rw [stepG_ret']; simp only [goes_go]; refine ⟨de0, ?_⟩)
    | (rw [stepG_block]; simp only [goes_go]; refine ⟨de0, ?_⟩)
    | (rw [stepG_loop]; simp only [goes_go]; refine ⟨de0, ?_⟩)
    | (rw [stepG_inBlock]; simp only [goes_go]; refine ⟨de0, ?_⟩)
    | (rw [stepG_inLoop]; simp only [goes_go]; refine ⟨de0, ?_⟩)
    | (rw [stepG_end]; simp only [goes_go]; refine ⟨de0, ?_⟩)
    | (rw [stepG_region]; simp only [goes_go, List.size_toArray, List.length_cons, List.length_nil, Nat.reduceAdd, Nat.zero_add, List.range, List.range.loop]; refine ⟨de0, ?_⟩)
    | (rw [stepG_cond (t := true) rfl]; simp only [goes_go, if_true, if_false, Bool.false_eq_true, ↓reduceIte]; refine ⟨de0, ?_⟩)
    | (rw [stepG_cond (t := false) rfl]; simp only [goes_go, if_true, if_false, Bool.false_eq_true, ↓reduceIte]; refine ⟨de0, ?_⟩)
    | (rw [stepG_unwanted rfl rfl]; simp only [goes_go]; refine ⟨de0, ?_⟩; walk_nrm)
    | (refine goes_oper_k rfl rfl (by decide) (fun K hK => ?_); go_simp; refine hK _ _ ⟨?_, ?_⟩; (focus (intro e he; have hm := mem_listed he; simp [go_sem, storedEv, *] at hm; all_goals (subst hm; exact ok0_own _ _ _ (by simp)))); clear hK K)
    | (rw [stepG_store_atomic (u := .int .u64 0) rfl rfl (by decide) rfl Try.wgLib.f_storeU64 (x_storeU64_n Try.link) (x_storeU64_b Try.link) (x_storeU64_x Try.link) (x_storeU64_f Try.link) rfl rfl (by simp [go_sem]) (by simp [go_sem])]; simp only [goes_go]; refine ⟨?_, ?_⟩; (focus (intro e he; simp at he; subst he; exact ok0_at _ _ (by simp))); walk_nrm)
    | (refine goes_oper_k rfl rfl (by decide) (fun K hK => ?_); go_simp; refine hK _ _ ⟨?_, ?_⟩; (focus (rw [listed_nil (by simp [go_sem, *])]; exact de0)); clear hK K)
    | (refine goes_leave1 rfl rfl Try.func5 rfl ⟨de0, ?_⟩; walk_nrm)
    | (refine goes_leave0 rfl rfl Try.func15 rfl ⟨de0, ?_⟩; walk_nrm)
    | (refine goes_call rfl rfl (by decide) rfl Try.func5 (by rfl) rfl ⟨de0, ?_⟩; walk_nrmf Try.f5)
    | (refine goes_call rfl rfl (by decide) rfl Try.func15 (by rfl) rfl ⟨de0, ?_⟩; walk_nrmf Try.f15)
    | (refine goes_exit rfl ?_; refine ⟨de0, ?_⟩))
  refine Goes.stop (fun w r => ?_)
  subst r
  exact hS _ ⟨_, rfl, rfl, rfl, rfl, rfl, rfl, rfl, rfl, rfl⟩
end
end Go.Proofs.Ytdemidfpoojkdaa.Co
