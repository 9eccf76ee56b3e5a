/- CellOne: a worker. -/
import Derived.Test.YtdemidfpoojkdaaCoE
import Derived.Test.YtdemidfpoojkdaaCoT
import Derived.Test.YtdemidfpoojkdaaCoWc
namespace Go.Proofs.Ytdemidfpoojkdaa.Co
open Go.Conc Go.ConcN Go.RowKit Go.Conc.Lib Go.ConcR.Gen Go.ConcN.Gen
open Go.ConcR (KK WgAt stA smA rd wr mk DC0)
set_option linter.unusedVariables false
set_option linter.unusedSimpArgs false
def b17 : Frame := baseD 17
noncomputable def bot : Frame := { (default : Frame) with fn := Try.prog.funcs.size, defers := [], mode := .panicking [goexitEntry] }
noncomputable def body17 : Code := Try.f17.body.getD .skip
/-- The call that the j-th go statement holds. -/
def gocall (N j : Nat) : Deferred := { target := .fn (.func 17) #[.pointer (some ⟨N + 7 + 2 * j, 0, none⟩), .pointer (some ⟨N + 8 + 2 * j, 0, none⟩)], args := #[] }
theorem born_step (N j : Nat) (w : World) : stepG Try.prog false (born Try.prog (gocall N j)) w =
    .go (G (b17.at ⟨#[.pointer (some ⟨N + 7 + 2 * j, 0, none⟩), .pointer (some ⟨N + 8 + 2 * j, 0, none⟩), undef, undef, undef], []⟩ [.code body17]) [bot]) w #[] := by
  simp [born, gocall, stepG, unwind, callDeferred, invoke, callFunc, Try.func17, Try.f17, seen, GStep.after, G, Frame.enter, Frame.at, b17, baseD, bot, body17]
theorem env_P (N : Nat) (x st : Int) (n : Nat) : (env N x st n).P = Try.prog := rfl
section
variable {N n j : Nat} {x st : Int} {w : World}
/-- The literal's own way out: it only leaves. -/
theorem quitsTail (T : Array Value) : QuitsD Try.prog 2 0 (Conc.G { b17.at ⟨T, []⟩ [] with mode := .returning } [bot]) := by
  refine QuitsD.ctl (g' := Conc.G bot []) rfl (fun w => ?_) ?_
  · simp [Conc.G, stepG, unwind, doReturn, results, Frame.at, b17, baseD, bot, Try.func17, Try.f17, seen, GStep.after, goexitEntry]
  refine QuitsD.ctl (g' := { Conc.G bot [] with status := .finished }) rfl (fun w => ?_) ⟨rfl, rfl⟩
  simp [Conc.G, stepG, unwind, bot, goexitEntry, Frame.catches]
  rfl
set_option maxRecDepth 100000 in
set_option maxHeartbeats 8000000 in
theorem workYes (G : (env N x st n).geo) (h0 : 0 ≤ x) (h1 : x < 18446744073709551616) (s0 : 0 ≤ st) (s1 : st < 256) (hm : wMay (x % 4) (st % 4) = true) (hF : Kn N x st n j w) :
    ∃ m, Goes Try.prog false ((env N x st n).RK ((env N x st n).Lw (j + 1))) ((env N x st n).DK (j + 1)) ((env N x st n).Kc (j + 1)) m (born Try.prog (gocall N j)) w := by
  have e1 : st.tmod 4 = st % 4 := Int.tmod_eq_emod_of_nonneg s0
  have e2 : IntKind.i64.wrap (st % 4) = st % 4 := by rw [IntKind.wrap_i64]; omega
  have hev := ev_nil
  have hei := ev_if
  have hA := fun {b₀ a₀ ops₀ i₀ rest₀ k₀ cs qt} => @addNeg Try.link (env N x st n) (j + 1) b₀ a₀ ops₀ i₀ rest₀ k₀ cs qt Try.wgLib
  simp only [body_add, addFn, Option.getD_some] at hA
  refine ⟨600, ?_⟩
  refine Goes.step rfl (fun _ h₁ => ?_); replace hF := Kn.rely hF h₁; clear h₁
  rw [born_step]
  simp only [goes_go]
  refine ⟨dk0, ?_⟩
  simp only [body17, Try.f17, Option.getD_some]
  repeat (refine Goes.step rfl (fun _ h₁ => ?_); replace hF := Kn.rely hF h₁; clear h₁; first
    | (rw [stepG_seq]; simp only [goes_go]; refine ⟨dk0, ?_⟩)
    | (rw [stepG_region_end]; simp only [goes_go]; refine ⟨dk0, ?_⟩)
    | (rw [stepG_skip]; simp only [goes_go]; refine ⟨dk0, ?_⟩)
    | (rw [stepG_ret']; simp only [goes_go]; refine ⟨dk0, ?_⟩)
    | (rw [stepG_block]; simp only [goes_go]; refine ⟨dk0, ?_⟩)
    | (rw [stepG_loop]; simp only [goes_go]; refine ⟨dk0, ?_⟩)
    | (rw [stepG_inBlock]; simp only [goes_go]; refine ⟨dk0, ?_⟩)
    | (rw [stepG_inLoop]; simp only [goes_go]; refine ⟨dk0, ?_⟩)
    | (rw [stepG_end]; simp only [goes_go]; refine ⟨dk0, ?_⟩)
    | (rw [stepG_region]; simp only [goes_go, List.size_toArray, List.length_cons, List.length_nil, Nat.reduceAdd, Nat.zero_add, List.range, List.range.loop]; refine ⟨dk0, ?_⟩)
    | (rw [stepG_cond (t := true) rfl]; simp only [goes_go, if_true, if_false, Bool.false_eq_true, ↓reduceIte]; refine ⟨dk0, ?_⟩)
    | (rw [stepG_cond (t := false) rfl]; simp only [goes_go, if_true, if_false, Bool.false_eq_true, ↓reduceIte]; refine ⟨dk0, ?_⟩)
    | (rw [stepG_unwanted rfl rfl]; simp only [goes_go]; refine ⟨dk0, ?_⟩; walk_nrm)
    | (refine goes_callv rfl rfl (by decide) rfl rfl Try.func7 (by rfl) rfl ⟨dk0, ?_⟩; walk_nrmf Try.f7)
    | (rw [stepG_deferv (f := 18) rfl rfl (by decide) rfl rfl]; simp only [goes_go]; refine ⟨dk0, ?_⟩; walk_nrm)
    | (refine goes_oper_k rfl rfl (by decide) (fun K hK => ?_); have k1 := hF.own.fb; have k2 := hF.own.sb; have k3 := hF.own.cb; have k4 := hF.gb; have k5 := hF.bb; unfold fnv at k5; go_simp; refine hK _ _ ⟨?_, ?_⟩; (focus (refine ⟨rfl, fun e he => ?_⟩; have hm := mem_listed he; simp [go_sem, *] at hm; all_goals (subst hm; exact okw _ (by omega)))); clear hK K k1 k2 k3 k4 k5)
    | (refine goes_oper_k rfl rfl (by decide) (fun K hK => ?_); go_simp; refine hK _ _ ⟨?_, ?_⟩; (focus (rw [listed_nil (by simp [go_sem, *])]; exact dk0)); clear hK K)
    | (refine goes_leave2 rfl rfl Try.func8 rfl ⟨dk0, ?_⟩; walk_nrm)
    | (refine goes_call rfl rfl (by decide) rfl Try.func8 (by rfl) rfl ⟨dk0, ?_⟩; walk_nrmf Try.f8)
    | (refine goes_exit rfl ?_; refine ⟨dk0, ?_⟩))
  refine Goes.step rfl (fun _ h₁ => ?_); replace hF := Kn.rely hF h₁; clear h₁
  refine goes_call rfl rfl (by decide) rfl Try.func11 (by rfl) rfl ⟨dk0, ?_⟩
  walk_nrmf Try.f11
  refine Goes.mono (to_g (I := Kn N x st n j) (mT := 400) (fun _ _ r h => h.rely r) (fun _ => dk0) x (st % 4) h0 h1 (by omega) (by omega) (fun w hF => ?_) _ hF) (by omega)
  rw [hm]
  walk_nrm
  repeat (refine Goes.step rfl (fun _ h₁ => ?_); replace hF := Kn.rely hF h₁; clear h₁; first
    | (rw [stepG_seq]; simp only [goes_go]; refine ⟨dk0, ?_⟩)
    | (rw [stepG_region_end]; simp only [goes_go]; refine ⟨dk0, ?_⟩)
    | (rw [stepG_skip]; simp only [goes_go]; refine ⟨dk0, ?_⟩)
    | (rw [stepG_ret']; simp only [goes_go]; refine ⟨dk0, ?_⟩)
    | (rw [stepG_block]; simp only [goes_go]; refine ⟨dk0, ?_⟩)
    | (rw [stepG_loop]; simp only [goes_go]; refine ⟨dk0, ?_⟩)
    | (rw [stepG_inBlock]; simp only [goes_go]; refine ⟨dk0, ?_⟩)
    | (rw [stepG_inLoop]; simp only [goes_go]; refine ⟨dk0, ?_⟩)
    | (rw [stepG_end]; simp only [goes_go]; refine ⟨dk0, ?_⟩)
    | (rw [stepG_region]; simp only [goes_go, List.size_toArray, List.length_cons, List.length_nil, Nat.reduceAdd, Nat.zero_add, List.range, List.range.loop]; refine ⟨dk0, ?_⟩)
    | (rw [stepG_cond (t := true) rfl]; simp only [goes_go, if_true, if_false, Bool.false_eq_true, ↓reduceIte]; refine ⟨dk0, ?_⟩)
    | (rw [stepG_cond (t := false) rfl]; simp only [goes_go, if_true, if_false, Bool.false_eq_true, ↓reduceIte]; refine ⟨dk0, ?_⟩)
    | (rw [stepG_unwanted rfl rfl]; simp only [goes_go]; refine ⟨dk0, ?_⟩; walk_nrm)
    | (refine goes_oper_k rfl rfl (by decide) (fun K hK => ?_); go_simp; refine hK _ _ ⟨?_, ?_⟩; (focus (rw [listed_nil (by simp [go_sem, *])]; exact dk0)); clear hK K)
    | (refine goes_leave1 rfl rfl Try.func20 rfl ⟨dk0, ?_⟩; walk_nrm)
    | (refine goes_call rfl rfl (by decide) rfl Try.func20 (by rfl) rfl ⟨dk0, ?_⟩; walk_nrmf Try.f20)
    | (refine goes_exit rfl ?_; refine ⟨dk0, ?_⟩))
  refine Goes.stop (fun w₁ h₁ => ?_)
  replace hF := Kn.rely hF h₁
  clear h₁
  have hnx : (env N x st n).next = wTo x (st % 4) := by simp [env, hm]
  have hne := env_ne (N := N) (st := st) (n := n) h0
  refine ⟨rfl, fun hce => ⟨_, (stepG_cas_hit (ad := (env N x st n).ceA) (v := x) (n := wTo x (st % 4)) rfl rfl (by decide) rfl Try.wgLib.f_casU64 (x_casU64_n Try.link) (x_casU64_b Try.link) (x_casU64_x Try.link) .u64 (x_casU64_f Try.link) rfl rfl rfl (ce_cell hce) (ce_thaw hce)).trans (by rw [hnx]; rfl), 300, ?_⟩,
    fun hce => ⟨_, stepG_cas_miss (ad := (env N x st n).ceA) (v := (env N x st n).next) (old := x) (n := wTo x (st % 4)) rfl rfl (by decide) rfl Try.wgLib.f_casU64 (x_casU64_n Try.link) (x_casU64_b Try.link) (x_casU64_x Try.link) .u64 (x_casU64_f Try.link) rfl rfl rfl (ce_cell hce) (ce_thaw hce) hne, 300, ?_⟩⟩
  · change Goes Try.prog false _ _ _ _ _ _
    replace hF := hF.setCe G hce (env N x st n).next
    clear hce hnx hne
    walk_nrm
    repeat (refine Goes.step rfl (fun _ h₁ => ?_); replace hF := Kn.rely hF h₁; clear h₁; first
      | (rw [stepG_seq]; simp only [goes_go]; refine ⟨dk0, ?_⟩)
      | (rw [stepG_region_end]; simp only [goes_go]; refine ⟨dk0, ?_⟩)
      | (rw [stepG_skip]; simp only [goes_go]; refine ⟨dk0, ?_⟩)
      | (rw [stepG_ret']; simp only [goes_go]; refine ⟨dk0, ?_⟩)
      | (rw [stepG_block]; simp only [goes_go]; refine ⟨dk0, ?_⟩)
      | (rw [stepG_loop]; simp only [goes_go]; refine ⟨dk0, ?_⟩)
      | (rw [stepG_inBlock]; simp only [goes_go]; refine ⟨dk0, ?_⟩)
      | (rw [stepG_inLoop]; simp only [goes_go]; refine ⟨dk0, ?_⟩)
      | (rw [stepG_end]; simp only [goes_go]; refine ⟨dk0, ?_⟩)
      | (rw [stepG_region]; simp only [goes_go, List.size_toArray, List.length_cons, List.length_nil, Nat.reduceAdd, Nat.zero_add, List.range, List.range.loop]; refine ⟨dk0, ?_⟩)
      | (rw [stepG_cond (t := true) rfl]; simp only [goes_go, if_true, if_false, Bool.false_eq_true, ↓reduceIte]; refine ⟨dk0, ?_⟩)
      | (rw [stepG_cond (t := false) rfl]; simp only [goes_go, if_true, if_false, Bool.false_eq_true, ↓reduceIte]; refine ⟨dk0, ?_⟩)
      | (rw [stepG_unwanted rfl rfl]; simp only [goes_go]; refine ⟨dk0, ?_⟩; walk_nrm)
      | (refine goes_oper_k rfl rfl (by decide) (fun K hK => ?_); go_simp; refine hK _ _ ⟨?_, ?_⟩; (focus (rw [listed_nil (by simp [go_sem, *])]; exact dk0)); clear hK K)
      | (refine goes_leave1 rfl rfl Try.func20 rfl ⟨dk0, ?_⟩; walk_nrm)
      | (refine goes_leave2 rfl rfl Try.func8 rfl ⟨dk0, ?_⟩; walk_nrm)
      | (refine goes_leave1 rfl rfl Try.func9 rfl ⟨dk0, ?_⟩; walk_nrm)
      | (refine goes_call rfl rfl (by decide) rfl Try.func20 (by rfl) rfl ⟨dk0, ?_⟩; walk_nrmf Try.f20)
      | (refine goes_call rfl rfl (by decide) rfl Try.func8 (by rfl) rfl ⟨dk0, ?_⟩; walk_nrmf Try.f8)
      | (refine goes_call rfl rfl (by decide) rfl Try.func9 (by rfl) rfl ⟨dk0, ?_⟩; walk_nrmf Try.f9)
      | (refine goes_exit rfl ?_; refine ⟨dk0, ?_⟩))
    refine Goes.stop (fun w₂ h₂ => ?_)
    replace hF := Kn.rely hF h₂
    clear h₂
    refine ⟨rfl, fun hdn => ⟨_, (stepG_add_atomic (ad := (env N x st n).dnA) (v := 0) (d := 1) rfl rfl (by decide) rfl Try.func21 (by rfl) (by rfl) (by kernel_rfl) .i64 x_add64 rfl rfl (dn_cell hdn) (dn_thaw hdn)).trans (by rfl), 300, ?_⟩⟩
    change Goes Try.prog false _ _ _ _ _ _
    replace hF := hF.setDn G hdn 1
    clear hdn
    walk_nrm
    repeat (refine Goes.step rfl (fun _ h₁ => ?_); replace hF := Kn.rely hF h₁; clear h₁; first
      | (rw [stepG_seq]; simp only [goes_go]; refine ⟨dk0, ?_⟩)
      | (rw [stepG_region_end]; simp only [goes_go]; refine ⟨dk0, ?_⟩)
      | (rw [stepG_skip]; simp only [goes_go]; refine ⟨dk0, ?_⟩)
      | (rw [stepG_ret']; simp only [goes_go]; refine ⟨dk0, ?_⟩)
      | (rw [stepG_block]; simp only [goes_go]; refine ⟨dk0, ?_⟩)
      | (rw [stepG_loop]; simp only [goes_go]; refine ⟨dk0, ?_⟩)
      | (rw [stepG_inBlock]; simp only [goes_go]; refine ⟨dk0, ?_⟩)
      | (rw [stepG_inLoop]; simp only [goes_go]; refine ⟨dk0, ?_⟩)
      | (rw [stepG_end]; simp only [goes_go]; refine ⟨dk0, ?_⟩)
      | (rw [stepG_region]; simp only [goes_go, List.size_toArray, List.length_cons, List.length_nil, Nat.reduceAdd, Nat.zero_add, List.range, List.range.loop]; refine ⟨dk0, ?_⟩)
      | (rw [stepG_cond (t := true) rfl]; simp only [goes_go, if_true, if_false, Bool.false_eq_true, ↓reduceIte]; refine ⟨dk0, ?_⟩)
      | (rw [stepG_cond (t := false) rfl]; simp only [goes_go, if_true, if_false, Bool.false_eq_true, ↓reduceIte]; refine ⟨dk0, ?_⟩)
      | (rw [stepG_unwanted rfl rfl]; simp only [goes_go]; refine ⟨dk0, ?_⟩; walk_nrm)
      | (refine goes_oper_k rfl rfl (by decide) (fun K hK => ?_); go_simp; refine hK _ _ ⟨?_, ?_⟩; (focus (rw [listed_nil (by simp [go_sem, *])]; exact dk0)); clear hK K)
      | (refine goes_leave1 rfl rfl Try.func9 rfl ⟨dk0, ?_⟩; walk_nrm)
      | (refine goes_call rfl rfl (by decide) rfl Try.func9 (by rfl) rfl ⟨dk0, ?_⟩; walk_nrmf Try.f9)
      | (refine goes_exit rfl ?_; refine ⟨dk0, ?_⟩))
    refine Goes.step rfl (fun _ h₁ => ?_); replace hF := Kn.rely hF h₁; clear h₁
    refine goes_leave0 rfl rfl Try.func7 rfl ⟨dk0, ?_⟩
    walk_nrm
    repeat (refine Goes.step rfl (fun _ h₁ => ?_); replace hF := Kn.rely hF h₁; clear h₁; first
      | (rw [stepG_seq]; simp only [goes_go]; refine ⟨dk0, ?_⟩)
      | (rw [stepG_region_end]; simp only [goes_go]; refine ⟨dk0, ?_⟩)
      | (rw [stepG_skip]; simp only [goes_go]; refine ⟨dk0, ?_⟩)
      | (rw [stepG_ret']; simp only [goes_go]; refine ⟨dk0, ?_⟩)
      | (rw [stepG_block]; simp only [goes_go]; refine ⟨dk0, ?_⟩)
      | (rw [stepG_loop]; simp only [goes_go]; refine ⟨dk0, ?_⟩)
      | (rw [stepG_inBlock]; simp only [goes_go]; refine ⟨dk0, ?_⟩)
      | (rw [stepG_inLoop]; simp only [goes_go]; refine ⟨dk0, ?_⟩)
      | (rw [stepG_end]; simp only [goes_go]; refine ⟨dk0, ?_⟩)
      | (rw [stepG_region]; simp only [goes_go, List.size_toArray, List.length_cons, List.length_nil, Nat.reduceAdd, Nat.zero_add, List.range, List.range.loop]; refine ⟨dk0, ?_⟩)
      | (rw [stepG_cond (t := true) rfl]; simp only [goes_go, if_true, if_false, Bool.false_eq_true, ↓reduceIte]; refine ⟨dk0, ?_⟩)
      | (rw [stepG_cond (t := false) rfl]; simp only [goes_go, if_true, if_false, Bool.false_eq_true, ↓reduceIte]; refine ⟨dk0, ?_⟩)
      | (rw [stepG_unwanted rfl rfl]; simp only [goes_go]; refine ⟨dk0, ?_⟩; walk_nrm)
      | (refine goes_oper_k rfl rfl (by decide) (fun K hK => ?_); go_simp; refine hK _ _ ⟨?_, ?_⟩; (focus (rw [listed_nil (by simp [go_sem, *])]; exact dk0)); clear hK K)
      | (refine goes_exit rfl ?_; refine ⟨dk0, ?_⟩))
    refine Goes.step rfl (fun _ h₁ => ?_); replace hF := Kn.rely hF h₁; clear h₁
    rw [stepG_unwindv (f := 18) rfl Try.func18 (by rfl) rfl]
    simp only [goes_go]
    refine ⟨dk0, ?_⟩
    walk_nrmf Try.f18
    repeat (refine Goes.step rfl (fun _ h₁ => ?_); replace hF := Kn.rely hF h₁; clear h₁; first
      | (rw [stepG_seq]; simp only [goes_go]; refine ⟨dk0, ?_⟩)
      | (rw [stepG_region_end]; simp only [goes_go]; refine ⟨dk0, ?_⟩)
      | (rw [stepG_skip]; simp only [goes_go]; refine ⟨dk0, ?_⟩)
      | (rw [stepG_ret']; simp only [goes_go]; refine ⟨dk0, ?_⟩)
      | (rw [stepG_block]; simp only [goes_go]; refine ⟨dk0, ?_⟩)
      | (rw [stepG_loop]; simp only [goes_go]; refine ⟨dk0, ?_⟩)
      | (rw [stepG_inBlock]; simp only [goes_go]; refine ⟨dk0, ?_⟩)
      | (rw [stepG_inLoop]; simp only [goes_go]; refine ⟨dk0, ?_⟩)
      | (rw [stepG_end]; simp only [goes_go]; refine ⟨dk0, ?_⟩)
      | (rw [stepG_region]; simp only [goes_go, List.size_toArray, List.length_cons, List.length_nil, Nat.reduceAdd, Nat.zero_add, List.range, List.range.loop]; refine ⟨dk0, ?_⟩)
      | (rw [stepG_cond (t := true) rfl]; simp only [goes_go, if_true, if_false, Bool.false_eq_true, ↓reduceIte]; refine ⟨dk0, ?_⟩)
      | (rw [stepG_cond (t := false) rfl]; simp only [goes_go, if_true, if_false, Bool.false_eq_true, ↓reduceIte]; refine ⟨dk0, ?_⟩)
      | (rw [stepG_unwanted rfl rfl]; simp only [goes_go]; refine ⟨dk0, ?_⟩; walk_nrm)
      | (rw [stepG_recover rfl rfl rfl rfl rfl]; simp only [goes_go]; refine ⟨dk0, ?_⟩; walk_nrm)
      | (refine goes_oper_k rfl rfl (by decide) (fun K hK => ?_); have k1 := hF.own.fb; have k2 := hF.own.sb; have k3 := hF.own.cb; have k4 := hF.gb; have k5 := hF.bb; unfold fnv at k5; go_simp; refine hK _ _ ⟨?_, ?_⟩; (focus (refine ⟨rfl, fun e he => ?_⟩; have hm := mem_listed he; simp [go_sem, *] at hm; all_goals (subst hm; exact okw _ (by omega)))); clear hK K k1 k2 k3 k4 k5)
      | (refine goes_oper_k rfl rfl (by decide) (fun K hK => ?_); go_simp; refine hK _ _ ⟨?_, ?_⟩; (focus (rw [listed_nil (by simp [go_sem, *])]; exact dk0)); clear hK K)
      | (refine goes_leave0 rfl rfl Try.func19 rfl ⟨dk0, ?_⟩; walk_nrm)
      | (refine goes_call rfl rfl (by decide) rfl Try.func19 (by rfl) rfl ⟨dk0, ?_⟩; walk_nrmf Try.f19)
      | (refine goes_exit rfl ?_; refine ⟨dk0, ?_⟩))
    refine Goes.step rfl (fun _ h₁ => ?_); replace hF := Kn.rely hF h₁; clear h₁
    refine goes_call rfl rfl (by decide) rfl Try.wgLib.f_add (nm_add Try.link) rfl ⟨dk0, ?_⟩
    walk_nrmf addFn
    refine Goes.mono (hA (qt := 8) G ?_ _ hF.live) (by omega)
    refine QuitsD.ctl rfl (fun _ => stepG_region_end) ?_
    refine QuitsD.ctl rfl (fun _ => stepG_end) ?_
    refine QuitsD.leave0 rfl rfl Try.func19 rfl ?_
    walk_nrm
    refine QuitsD.ctl rfl (fun _ => stepG_region_end) ?_
    refine QuitsD.ctl rfl (fun _ => stepG_end) ?_
    exact QuitsD.leaveD rfl rfl Try.func18 rfl rfl (quitsTail _)
  · change Goes Try.prog false _ _ _ _ _ _
    clear hce hnx hne
    walk_nrm
    repeat (refine Goes.step rfl (fun _ h₁ => ?_); replace hF := Kn.rely hF h₁; clear h₁; first
      | (rw [stepG_seq]; simp only [goes_go]; refine ⟨dk0, ?_⟩)
      | (rw [stepG_region_end]; simp only [goes_go]; refine ⟨dk0, ?_⟩)
      | (rw [stepG_skip]; simp only [goes_go]; refine ⟨dk0, ?_⟩)
      | (rw [stepG_ret']; simp only [goes_go]; refine ⟨dk0, ?_⟩)
      | (rw [stepG_block]; simp only [goes_go]; refine ⟨dk0, ?_⟩)
      | (rw [stepG_loop]; simp only [goes_go]; refine ⟨dk0, ?_⟩)
      | (rw [stepG_inBlock]; simp only [goes_go]; refine ⟨dk0, ?_⟩)
      | (rw [stepG_inLoop]; simp only [goes_go]; refine ⟨dk0, ?_⟩)
      | (rw [stepG_end]; simp only [goes_go]; refine ⟨dk0, ?_⟩)
      | (rw [stepG_region]; simp only [goes_go, List.size_toArray, List.length_cons, List.length_nil, Nat.reduceAdd, Nat.zero_add, List.range, List.range.loop]; refine ⟨dk0, ?_⟩)
      | (rw [stepG_cond (t := true) rfl]; simp only [goes_go, if_true, if_false, Bool.false_eq_true, ↓reduceIte]; refine ⟨dk0, ?_⟩)
      | (rw [stepG_cond (t := false) rfl]; simp only [goes_go, if_true, if_false, Bool.false_eq_true, ↓reduceIte]; refine ⟨dk0, ?_⟩)
      | (rw [stepG_unwanted rfl rfl]; simp only [goes_go]; refine ⟨dk0, ?_⟩; walk_nrm)
      | (obtain ⟨vv, hvv⟩ := hF.ceCell; rw [stepG_load_atomic rfl rfl (by decide) rfl Try.wgLib.f_loadU64 (x_loadU64_n Try.link) (x_loadU64_b Try.link) (x_loadU64_x Try.link) .u64 (x_loadU64_f Try.link) rfl hvv]; simp only [goes_go]; refine ⟨⟨rfl, fun e he => ?_⟩, ?_⟩; (focus (rw [Array.mem_singleton] at he; subst he; exact ok_atom (.inr (.inl rfl)))); clear hvv; walk_nrm)
      | (refine goes_oper_k rfl rfl (by decide) (fun K hK => ?_); go_simp; refine hK _ _ ⟨?_, ?_⟩; (focus (rw [listed_nil (by simp [go_sem, *])]; exact dk0)); clear hK K)
      | (refine goes_leave1 rfl rfl Try.func20 rfl ⟨dk0, ?_⟩; walk_nrm)
      | (refine goes_leave2 rfl rfl Try.func8 rfl ⟨dk0, ?_⟩; walk_nrm)
      | (refine goes_leave1 rfl rfl Try.func13 rfl ⟨dk0, ?_⟩; walk_nrm)
      | (refine goes_leave1 rfl rfl Try.func23 rfl ⟨dk0, ?_⟩; walk_nrm)
      | (refine goes_call rfl rfl (by decide) rfl Try.func20 (by rfl) rfl ⟨dk0, ?_⟩; walk_nrmf Try.f20)
      | (refine goes_call rfl rfl (by decide) rfl Try.func8 (by rfl) rfl ⟨dk0, ?_⟩; walk_nrmf Try.f8)
      | (refine goes_call rfl rfl (by decide) rfl Try.func13 (by rfl) rfl ⟨dk0, ?_⟩; walk_nrmf Try.f13)
      | (refine goes_call rfl rfl (by decide) rfl Try.func23 (by rfl) rfl ⟨dk0, ?_⟩; walk_nrmf Try.f23)
      | (refine goes_exit rfl ?_; refine ⟨dk0, ?_⟩))
    refine Goes.step rfl (fun _ h₁ => ?_); replace hF := Kn.rely hF h₁; clear h₁
    refine goes_leave0 rfl rfl Try.func7 rfl ⟨dk0, ?_⟩
    walk_nrm
    repeat (refine Goes.step rfl (fun _ h₁ => ?_); replace hF := Kn.rely hF h₁; clear h₁; first
      | (rw [stepG_seq]; simp only [goes_go]; refine ⟨dk0, ?_⟩)
      | (rw [stepG_region_end]; simp only [goes_go]; refine ⟨dk0, ?_⟩)
      | (rw [stepG_skip]; simp only [goes_go]; refine ⟨dk0, ?_⟩)
      | (rw [stepG_ret']; simp only [goes_go]; refine ⟨dk0, ?_⟩)
      | (rw [stepG_block]; simp only [goes_go]; refine ⟨dk0, ?_⟩)
      | (rw [stepG_loop]; simp only [goes_go]; refine ⟨dk0, ?_⟩)
      | (rw [stepG_inBlock]; simp only [goes_go]; refine ⟨dk0, ?_⟩)
      | (rw [stepG_inLoop]; simp only [goes_go]; refine ⟨dk0, ?_⟩)
      | (rw [stepG_end]; simp only [goes_go]; refine ⟨dk0, ?_⟩)
      | (rw [stepG_region]; simp only [goes_go, List.size_toArray, List.length_cons, List.length_nil, Nat.reduceAdd, Nat.zero_add, List.range, List.range.loop]; refine ⟨dk0, ?_⟩)
      | (rw [stepG_cond (t := true) rfl]; simp only [goes_go, if_true, if_false, Bool.false_eq_true, ↓reduceIte]; refine ⟨dk0, ?_⟩)
      | (rw [stepG_cond (t := false) rfl]; simp only [goes_go, if_true, if_false, Bool.false_eq_true, ↓reduceIte]; refine ⟨dk0, ?_⟩)
      | (rw [stepG_unwanted rfl rfl]; simp only [goes_go]; refine ⟨dk0, ?_⟩; walk_nrm)
      | (refine goes_oper_k rfl rfl (by decide) (fun K hK => ?_); go_simp; refine hK _ _ ⟨?_, ?_⟩; (focus (rw [listed_nil (by simp [go_sem, *])]; exact dk0)); clear hK K)
      | (refine goes_exit rfl ?_; refine ⟨dk0, ?_⟩))
    refine Goes.step rfl (fun _ h₁ => ?_); replace hF := Kn.rely hF h₁; clear h₁
    rw [stepG_unwindv (f := 18) rfl Try.func18 (by rfl) rfl]
    simp only [goes_go]
    refine ⟨dk0, ?_⟩
    walk_nrmf Try.f18
    repeat (refine Goes.step rfl (fun _ h₁ => ?_); replace hF := Kn.rely hF h₁; clear h₁; first
      | (rw [stepG_seq]; simp only [goes_go]; refine ⟨dk0, ?_⟩)
      | (rw [stepG_region_end]; simp only [goes_go]; refine ⟨dk0, ?_⟩)
      | (rw [stepG_skip]; simp only [goes_go]; refine ⟨dk0, ?_⟩)
      | (rw [stepG_ret']; simp only [goes_go]; refine ⟨dk0, ?_⟩)
      | (rw [stepG_block]; simp only [goes_go]; refine ⟨dk0, ?_⟩)
      | (rw [stepG_loop]; simp only [goes_go]; refine ⟨dk0, ?_⟩)
      | (rw [stepG_inBlock]; simp only [goes_go]; refine ⟨dk0, ?_⟩)
      | (rw [stepG_inLoop]; simp only [goes_go]; refine ⟨dk0, ?_⟩)
      | (rw [stepG_end]; simp only [goes_go]; refine ⟨dk0, ?_⟩)
      | (rw [stepG_region]; simp only [goes_go, List.size_toArray, List.length_cons, List.length_nil, Nat.reduceAdd, Nat.zero_add, List.range, List.range.loop]; refine ⟨dk0, ?_⟩)
      | (rw [stepG_cond (t := true) rfl]; simp only [goes_go, if_true, if_false, Bool.false_eq_true, ↓reduceIte]; refine ⟨dk0, ?_⟩)
      | (rw [stepG_cond (t := false) rfl]; simp only [goes_go, if_true, if_false, Bool.false_eq_true, ↓reduceIte]; refine ⟨dk0, ?_⟩)
      | (rw [stepG_unwanted rfl rfl]; simp only [goes_go]; refine ⟨dk0, ?_⟩; walk_nrm)
      | (rw [stepG_recover rfl rfl rfl rfl rfl]; simp only [goes_go]; refine ⟨dk0, ?_⟩; walk_nrm)
      | (refine goes_oper_k rfl rfl (by decide) (fun K hK => ?_); have k1 := hF.own.fb; have k2 := hF.own.sb; have k3 := hF.own.cb; have k4 := hF.gb; have k5 := hF.bb; unfold fnv at k5; go_simp; refine hK _ _ ⟨?_, ?_⟩; (focus (refine ⟨rfl, fun e he => ?_⟩; have hm := mem_listed he; simp [go_sem, *] at hm; all_goals (subst hm; exact okw _ (by omega)))); clear hK K k1 k2 k3 k4 k5)
      | (refine goes_oper_k rfl rfl (by decide) (fun K hK => ?_); go_simp; refine hK _ _ ⟨?_, ?_⟩; (focus (rw [listed_nil (by simp [go_sem, *])]; exact dk0)); clear hK K)
      | (refine goes_leave0 rfl rfl Try.func19 rfl ⟨dk0, ?_⟩; walk_nrm)
      | (refine goes_call rfl rfl (by decide) rfl Try.func19 (by rfl) rfl ⟨dk0, ?_⟩; walk_nrmf Try.f19)
      | (refine goes_exit rfl ?_; refine ⟨dk0, ?_⟩))
    refine Goes.step rfl (fun _ h₁ => ?_); replace hF := Kn.rely hF h₁; clear h₁
    refine goes_call rfl rfl (by decide) rfl Try.wgLib.f_add (nm_add Try.link) rfl ⟨dk0, ?_⟩
    walk_nrmf addFn
    refine Goes.mono (hA (qt := 8) G ?_ _ hF.live) (by omega)
    refine QuitsD.ctl rfl (fun _ => stepG_region_end) ?_
    refine QuitsD.ctl rfl (fun _ => stepG_end) ?_
    refine QuitsD.leave0 rfl rfl Try.func19 rfl ?_
    walk_nrm
    refine QuitsD.ctl rfl (fun _ => stepG_region_end) ?_
    refine QuitsD.ctl rfl (fun _ => stepG_end) ?_
    exact QuitsD.leaveD rfl rfl Try.func18 rfl rfl (quitsTail _)
set_option maxRecDepth 100000 in
set_option maxHeartbeats 8000000 in
theorem workNo (G : (env N x st n).geo) (h0 : 0 ≤ x) (h1 : x < 18446744073709551616) (s0 : 0 ≤ st) (s1 : st < 256) (hm : wMay (x % 4) (st % 4) = false) (hF : Kn N x st n j w) :
    ∃ m, Goes Try.prog false ((env N x st n).RK ((env N x st n).Lw (j + 1))) ((env N x st n).DK (j + 1)) ((env N x st n).Kr (j + 1)) m (born Try.prog (gocall N j)) w := by
  have e1 : st.tmod 4 = st % 4 := Int.tmod_eq_emod_of_nonneg s0
  have e2 : IntKind.i64.wrap (st % 4) = st % 4 := by rw [IntKind.wrap_i64]; omega
  have hev := ev_nil
  have hei := ev_if
  have hA := fun {b₀ a₀ ops₀ i₀ rest₀ k₀ cs qt} => @addNeg Try.link (env N x st n) (j + 1) b₀ a₀ ops₀ i₀ rest₀ k₀ cs qt Try.wgLib
  simp only [body_add, addFn, Option.getD_some] at hA
  refine ⟨600, ?_⟩
  refine Goes.step rfl (fun _ h₁ => ?_); replace hF := Kn.rely hF h₁; clear h₁
  rw [born_step]
  simp only [goes_go]
  refine ⟨dk0, ?_⟩
  simp only [body17, Try.f17, Option.getD_some]
  repeat (refine Goes.step rfl (fun _ h₁ => ?_); replace hF := Kn.rely hF h₁; clear h₁; first
    | (rw [stepG_seq]; simp only [goes_go]; refine ⟨dk0, ?_⟩)
    | (rw [stepG_region_end]; simp only [goes_go]; refine ⟨dk0, ?_⟩)
    | (rw [stepG_skip]; simp only [goes_go]; refine ⟨dk0, ?_⟩)
    | (rw [stepG_ret']; simp only [goes_go]; refine ⟨dk0, ?_⟩)
    | (rw [stepG_block]; simp only [goes_go]; refine ⟨dk0, ?_⟩)
    | (rw [stepG_loop]; simp only [goes_go]; refine ⟨dk0, ?_⟩)
    | (rw [stepG_inBlock]; simp only [goes_go]; refine ⟨dk0, ?_⟩)
    | (rw [stepG_inLoop]; simp only [goes_go]; refine ⟨dk0, ?_⟩)
    | (rw [stepG_end]; simp only [goes_go]; refine ⟨dk0, ?_⟩)
    | (rw [stepG_region]; simp only [goes_go, List.size_toArray, List.length_cons, List.length_nil, Nat.reduceAdd, Nat.zero_add, List.range, List.range.loop]; refine ⟨dk0, ?_⟩)
    | (rw [stepG_cond (t := true) rfl]; simp only [goes_go, if_true, if_false, Bool.false_eq_true, ↓reduceIte]; refine ⟨dk0, ?_⟩)
    | (rw [stepG_cond (t := false) rfl]; simp only [goes_go, if_true, if_false, Bool.false_eq_true, ↓reduceIte]; refine ⟨dk0, ?_⟩)
    | (rw [stepG_unwanted rfl rfl]; simp only [goes_go]; refine ⟨dk0, ?_⟩; walk_nrm)
    | (refine goes_callv rfl rfl (by decide) rfl rfl Try.func7 (by rfl) rfl ⟨dk0, ?_⟩; walk_nrmf Try.f7)
    | (rw [stepG_deferv (f := 18) rfl rfl (by decide) rfl rfl]; simp only [goes_go]; refine ⟨dk0, ?_⟩; walk_nrm)
    | (refine goes_oper_k rfl rfl (by decide) (fun K hK => ?_); have k1 := hF.own.fb; have k2 := hF.own.sb; have k3 := hF.own.cb; have k4 := hF.gb; have k5 := hF.bb; unfold fnv at k5; go_simp; refine hK _ _ ⟨?_, ?_⟩; (focus (refine ⟨rfl, fun e he => ?_⟩; have hm := mem_listed he; simp [go_sem, *] at hm; all_goals (subst hm; exact okw _ (by omega)))); clear hK K k1 k2 k3 k4 k5)
    | (refine goes_oper_k rfl rfl (by decide) (fun K hK => ?_); go_simp; refine hK _ _ ⟨?_, ?_⟩; (focus (rw [listed_nil (by simp [go_sem, *])]; exact dk0)); clear hK K)
    | (refine goes_leave2 rfl rfl Try.func8 rfl ⟨dk0, ?_⟩; walk_nrm)
    | (refine goes_call rfl rfl (by decide) rfl Try.func8 (by rfl) rfl ⟨dk0, ?_⟩; walk_nrmf Try.f8)
    | (refine goes_exit rfl ?_; refine ⟨dk0, ?_⟩))
  refine Goes.step rfl (fun _ h₁ => ?_); replace hF := Kn.rely hF h₁; clear h₁
  refine goes_call rfl rfl (by decide) rfl Try.func11 (by rfl) rfl ⟨dk0, ?_⟩
  walk_nrmf Try.f11
  refine Goes.mono (to_g (I := Kn N x st n j) (mT := 400) (fun _ _ r h => h.rely r) (fun _ => dk0) x (st % 4) h0 h1 (by omega) (by omega) (fun w hF => ?_) _ hF) (by omega)
  rw [hm]
  walk_nrm
  repeat (refine Goes.step rfl (fun _ h₁ => ?_); replace hF := Kn.rely hF h₁; clear h₁; first
    | (rw [stepG_seq]; simp only [goes_go]; refine ⟨dk0, ?_⟩)
    | (rw [stepG_region_end]; simp only [goes_go]; refine ⟨dk0, ?_⟩)
    | (rw [stepG_skip]; simp only [goes_go]; refine ⟨dk0, ?_⟩)
    | (rw [stepG_ret']; simp only [goes_go]; refine ⟨dk0, ?_⟩)
    | (rw [stepG_block]; simp only [goes_go]; refine ⟨dk0, ?_⟩)
    | (rw [stepG_loop]; simp only [goes_go]; refine ⟨dk0, ?_⟩)
    | (rw [stepG_inBlock]; simp only [goes_go]; refine ⟨dk0, ?_⟩)
    | (rw [stepG_inLoop]; simp only [goes_go]; refine ⟨dk0, ?_⟩)
    | (rw [stepG_end]; simp only [goes_go]; refine ⟨dk0, ?_⟩)
    | (rw [stepG_region]; simp only [goes_go, List.size_toArray, List.length_cons, List.length_nil, Nat.reduceAdd, Nat.zero_add, List.range, List.range.loop]; refine ⟨dk0, ?_⟩)
    | (rw [stepG_cond (t := true) rfl]; simp only [goes_go, if_true, if_false, Bool.false_eq_true, ↓reduceIte]; refine ⟨dk0, ?_⟩)
    | (rw [stepG_cond (t := false) rfl]; simp only [goes_go, if_true, if_false, Bool.false_eq_true, ↓reduceIte]; refine ⟨dk0, ?_⟩)
    | (rw [stepG_unwanted rfl rfl]; simp only [goes_go]; refine ⟨dk0, ?_⟩; walk_nrm)
    | (obtain ⟨vv, hvv⟩ := hF.ceCell; rw [stepG_load_atomic rfl rfl (by decide) rfl Try.wgLib.f_loadU64 (x_loadU64_n Try.link) (x_loadU64_b Try.link) (x_loadU64_x Try.link) .u64 (x_loadU64_f Try.link) rfl hvv]; simp only [goes_go]; refine ⟨⟨rfl, fun e he => ?_⟩, ?_⟩; (focus (rw [Array.mem_singleton] at he; subst he; exact ok_atom (.inr (.inl rfl)))); clear hvv; walk_nrm)
    | (refine goes_oper_k rfl rfl (by decide) (fun K hK => ?_); go_simp; refine hK _ _ ⟨?_, ?_⟩; (focus (rw [listed_nil (by simp [go_sem, *])]; exact dk0)); clear hK K)
    | (refine goes_leave2 rfl rfl Try.func8 rfl ⟨dk0, ?_⟩; walk_nrm)
    | (refine goes_leave1 rfl rfl Try.func13 rfl ⟨dk0, ?_⟩; walk_nrm)
    | (refine goes_leave1 rfl rfl Try.func23 rfl ⟨dk0, ?_⟩; walk_nrm)
    | (refine goes_call rfl rfl (by decide) rfl Try.func8 (by rfl) rfl ⟨dk0, ?_⟩; walk_nrmf Try.f8)
    | (refine goes_call rfl rfl (by decide) rfl Try.func13 (by rfl) rfl ⟨dk0, ?_⟩; walk_nrmf Try.f13)
    | (refine goes_call rfl rfl (by decide) rfl Try.func23 (by rfl) rfl ⟨dk0, ?_⟩; walk_nrmf Try.f23)
    | (refine goes_exit rfl ?_; refine ⟨dk0, ?_⟩))
  refine Goes.step rfl (fun _ h₁ => ?_); replace hF := Kn.rely hF h₁; clear h₁
  refine goes_leave0 rfl rfl Try.func7 rfl ⟨dk0, ?_⟩
  walk_nrm
  repeat (refine Goes.step rfl (fun _ h₁ => ?_); replace hF := Kn.rely hF h₁; clear h₁; first
    | (rw [stepG_seq]; simp only [goes_go]; refine ⟨dk0, ?_⟩)
    | (rw [stepG_region_end]; simp only [goes_go]; refine ⟨dk0, ?_⟩)
    | (rw [stepG_skip]; simp only [goes_go]; refine ⟨dk0, ?_⟩)
    | (rw [stepG_ret']; simp only [goes_go]; refine ⟨dk0, ?_⟩)
    | (rw [stepG_block]; simp only [goes_go]; refine ⟨dk0, ?_⟩)
    | (rw [stepG_loop]; simp only [goes_go]; refine ⟨dk0, ?_⟩)
    | (rw [stepG_inBlock]; simp only [goes_go]; refine ⟨dk0, ?_⟩)
    | (rw [stepG_inLoop]; simp only [goes_go]; refine ⟨dk0, ?_⟩)
    | (rw [stepG_end]; simp only [goes_go]; refine ⟨dk0, ?_⟩)
    | (rw [stepG_region]; simp only [goes_go, List.size_toArray, List.length_cons, List.length_nil, Nat.reduceAdd, Nat.zero_add, List.range, List.range.loop]; refine ⟨dk0, ?_⟩)
    | (rw [stepG_cond (t := true) rfl]; simp only [goes_go, if_true, if_false, Bool.false_eq_true, ↓reduceIte]; refine ⟨dk0, ?_⟩)
    | (rw [stepG_cond (t := false) rfl]; simp only [goes_go, if_true, if_false, Bool.false_eq_true, ↓reduceIte]; refine ⟨dk0, ?_⟩)
    | (rw [stepG_unwanted rfl rfl]; simp only [goes_go]; refine ⟨dk0, ?_⟩; walk_nrm)
    | (refine goes_oper_k rfl rfl (by decide) (fun K hK => ?_); go_simp; refine hK _ _ ⟨?_, ?_⟩; (focus (rw [listed_nil (by simp [go_sem, *])]; exact dk0)); clear hK K)
    | (refine goes_exit rfl ?_; refine ⟨dk0, ?_⟩))
  refine Goes.step rfl (fun _ h₁ => ?_); replace hF := Kn.rely hF h₁; clear h₁
  rw [stepG_unwindv (f := 18) rfl Try.func18 (by rfl) rfl]
  simp only [goes_go]
  refine ⟨dk0, ?_⟩
  walk_nrmf Try.f18
  repeat (refine Goes.step rfl (fun _ h₁ => ?_); replace hF := Kn.rely hF h₁; clear h₁; first
    | (rw [stepG_seq]; simp only [goes_go]; refine ⟨dk0, ?_⟩)
    | (rw [stepG_region_end]; simp only [goes_go]; refine ⟨dk0, ?_⟩)
    | (rw [stepG_skip]; simp only [goes_go]; refine ⟨dk0, ?_⟩)
    | (rw [stepG_ret']; simp only [goes_go]; refine ⟨dk0, ?_⟩)
    | (rw [stepG_block]; simp only [goes_go]; refine ⟨dk0, ?_⟩)
    | (rw [stepG_loop]; simp only [goes_go]; refine ⟨dk0, ?_⟩)
    | (rw [stepG_inBlock]; simp only [goes_go]; refine ⟨dk0, ?_⟩)
    | (rw [stepG_inLoop]; simp only [goes_go]; refine ⟨dk0, ?_⟩)
    | (rw [stepG_end]; simp only [goes_go]; refine ⟨dk0, ?_⟩)
    | (rw [stepG_region]; simp only [goes_go, List.size_toArray, List.length_cons, List.length_nil, Nat.reduceAdd, Nat.zero_add, List.range, List.range.loop]; refine ⟨dk0, ?_⟩)
    | (rw [stepG_cond (t := true) rfl]; simp only [goes_go, if_true, if_false, Bool.false_eq_true, ↓reduceIte]; refine ⟨dk0, ?_⟩)
    | (rw [stepG_cond (t := false) rfl]; simp only [goes_go, if_true, if_false, Bool.false_eq_true, ↓reduceIte]; refine ⟨dk0, ?_⟩)
    | (rw [stepG_unwanted rfl rfl]; simp only [goes_go]; refine ⟨dk0, ?_⟩; walk_nrm)
    | (rw [stepG_recover rfl rfl rfl rfl rfl]; simp only [goes_go]; refine ⟨dk0, ?_⟩; walk_nrm)
    | (refine goes_oper_k rfl rfl (by decide) (fun K hK => ?_); have k1 := hF.own.fb; have k2 := hF.own.sb; have k3 := hF.own.cb; have k4 := hF.gb; have k5 := hF.bb; unfold fnv at k5; go_simp; refine hK _ _ ⟨?_, ?_⟩; (focus (refine ⟨rfl, fun e he => ?_⟩; have hm := mem_listed he; simp [go_sem, *] at hm; all_goals (subst hm; exact okw _ (by omega)))); clear hK K k1 k2 k3 k4 k5)
    | (refine goes_oper_k rfl rfl (by decide) (fun K hK => ?_); go_simp; refine hK _ _ ⟨?_, ?_⟩; (focus (rw [listed_nil (by simp [go_sem, *])]; exact dk0)); clear hK K)
    | (refine goes_leave0 rfl rfl Try.func19 rfl ⟨dk0, ?_⟩; walk_nrm)
    | (refine goes_call rfl rfl (by decide) rfl Try.func19 (by rfl) rfl ⟨dk0, ?_⟩; walk_nrmf Try.f19)
    | (refine goes_exit rfl ?_; refine ⟨dk0, ?_⟩))
  refine Goes.step rfl (fun _ h₁ => ?_); replace hF := Kn.rely hF h₁; clear h₁
  refine goes_call rfl rfl (by decide) rfl Try.wgLib.f_add (nm_add Try.link) rfl ⟨dk0, ?_⟩
  walk_nrmf addFn
  refine Goes.mono (hA (qt := 8) G ?_ _ hF.live) (by omega)
  refine QuitsD.ctl rfl (fun _ => stepG_region_end) ?_
  refine QuitsD.ctl rfl (fun _ => stepG_end) ?_
  refine QuitsD.leave0 rfl rfl Try.func19 rfl ?_
  walk_nrm
  refine QuitsD.ctl rfl (fun _ => stepG_region_end) ?_
  refine QuitsD.ctl rfl (fun _ => stepG_end) ?_
  exact QuitsD.leaveD rfl rfl Try.func18 rfl rfl (quitsTail _)

theorem worker (G : (env N x st n).geo) (h0 : 0 ≤ x) (h1 : x < 18446744073709551616) (s0 : 0 ≤ st) (s1 : st < 256) (hF : Kn N x st n j w) : (env N x st n).work (j + 1) (born Try.prog (gocall N j)) w :=
  ⟨fun h => workYes G h0 h1 s0 s1 h hF, fun h => workNo G h0 h1 s0 s1 h hF⟩

end
end Go.Proofs.Ytdemidfpoojkdaa.Co
