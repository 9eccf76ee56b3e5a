/- The wait group's Add, Wait and Done in the company of workers that swap a shared word. -/
import Derived.Test.YtdemidfpoojkdaaCoW
import Derived.Conc.WgGenN3
import Derived.Conc.WgWords
namespace Go.Proofs.Ytdemidfpoojkdaa.Co
open Go.Conc Go.ConcN Go.RowKit Go.Conc.Lib Go.ConcR.Gen Go.ConcN.Gen
open Go.ConcR (KK wgBlock WgAt stA smA rd wr mk DC0)
set_option linter.unusedVariables false
set_option linter.unusedSimpArgs false
variable {L : WgLink} {E : Env}


/-- At the head of Wait's loop. -/
def anchE (L : WgLink) (E : Env) (F : World → Prop) (c : Frame) (cs : List Frame) (g : Goroutine) (w : World) : Prop :=
  ∃ T : Array Value, g = G ((base L.wait).at ⟨T, []⟩ [.code (L7 L), .inLoop (L7 L), .inBlock 0]) (c :: cs) ∧ T.size = 84 ∧ T[0]? = some (.pointer (some ⟨E.Wg, 0, none⟩)) ∧ F w ∧ E.live w
theorem at_rely {F : World → Prop} (hF2 : ∀ w w', E.RS w w' → F w → F w') {w w₁ : World} (h : (F w ∧ E.live w) ∧ E.found w) (r : atR w w₁) : (F w₁ ∧ E.live w₁) ∧ E.found w₁ := by
  obtain ⟨d, rfl⟩ := r
  exact ⟨fe_rely hF2 h.1 (.at w d), h.2⟩
section
variable {F : World → Prop} {Post : Value → World → Prop} {b₀ : Frame} {a₀ : Act} {ops₀ : Array Oper} {i₀ : Nat} {rest₀ : List Nat} {k₀ : List Item} {cs : List Frame} {mT : Nat}

set_option maxRecDepth 100000 in
set_option maxHeartbeats 8000000 in
/-- A round of Wait's loop. -/
theorem waitRound (H : WgLib E.P L) (HG : E.geo) (hF2 : ∀ w w', E.RS w w' → F w → F w')
    (hT : ∀ w, F w → E.live w → E.found w → Goes E.P true atR (E.DS E.n) (E.Se Post) mT (G (b₀.at (a₀.put ((ops₀[i₀]?).bind (·.dst)) (.tuple #[])) (.inRegion ops₀ rest₀ :: k₀)) cs) w)
    (g : Goroutine) (w : World) (h : anchE L E F (b₀.at a₀ (.inRegion ops₀ (i₀ :: rest₀) :: k₀)) cs g w) :
    ∃ m, Goes E.P true E.RS (E.DS E.n) (E.S1 (anchE L E F (b₀.at a₀ (.inRegion ops₀ (i₀ :: rest₀) :: k₀)) cs) Post) m g w := by
  lib_facts
  obtain ⟨T, rfl, hT84, t0, hF⟩ := h
  obtain ⟨v0, v1, v2, v3, v4, v5, v6, v7, v8, v9, v10, v11, v12, v13, v14, v15, v16, v17, v18, v19, v20, v21, v22, v23, v24, v25, v26, v27, v28, v29, v30, v31, v32, v33, v34, v35, v36, v37, v38, v39, v40, v41, v42, v43, v44, v45, v46, v47, v48, v49, v50, v51, v52, v53, v54, v55, v56, v57, v58, v59, v60, v61, v62, v63, v64, v65, v66, v67, v68, v69, v70, v71, v72, v73, v74, v75, v76, v77, v78, v79, v80, v81, v82, v83, rfl⟩ := array84 T hT84
  simp only [List.getElem?_toArray, List.getElem?_cons_zero, Option.some.injEq] at t0
  subst t0
  refine ⟨30, ?_⟩
  simp only [L7, body_wait, waitFn, Option.getD_some]
  iterate 16 (refine Goes.step rfl (fun _ h₁ => ?_); replace hF := (fe_rely hF2) hF h₁; clear h₁; first
    | (rw [stepG_seq]; simp only [goes_go]; refine ⟨ds0, ?_⟩)
    | (rw [stepG_region_end]; simp only [goes_go]; refine ⟨ds0, ?_⟩)
    | (rw [stepG_skip]; simp only [goes_go]; refine ⟨ds0, ?_⟩)
    | (rw [stepG_ret']; simp only [goes_go]; refine ⟨ds0, ?_⟩)
    | (rw [stepG_block]; simp only [goes_go]; refine ⟨ds0, ?_⟩)
    | (rw [stepG_loop]; simp only [goes_go]; refine ⟨ds0, ?_⟩)
    | (rw [stepG_inBlock]; simp only [goes_go]; refine ⟨ds0, ?_⟩)
    | (rw [stepG_inLoop]; simp only [goes_go]; refine ⟨ds0, ?_⟩)
    | (rw [stepG_end]; simp only [goes_go]; refine ⟨ds0, ?_⟩)
    | (rw [stepG_region]; simp only [goes_go, List.size_toArray, List.length_cons, List.length_nil, Nat.reduceAdd, Nat.zero_add, List.range, List.range.loop]; refine ⟨ds0, ?_⟩)
    | (rw [stepG_cond (t := true) rfl]; simp only [goes_go, if_true, if_false, Bool.false_eq_true, ↓reduceIte]; refine ⟨ds0, ?_⟩)
    | (rw [stepG_cond (t := false) rfl]; simp only [goes_go, if_true, if_false, Bool.false_eq_true, ↓reduceIte]; refine ⟨ds0, ?_⟩)
    | (rw [stepG_unwanted rfl rfl]; simp only [goes_go]; refine ⟨ds0, ?_⟩; walk_nrm)
    | (refine goes_leave1 rfl rfl H.f_uLoad rfl ⟨ds0, ?_⟩; walk_nrm)
    | (refine goes_leave0 rfl rfl H.f_uLoad rfl ⟨ds0, ?_⟩; walk_nrm)
    | (refine goes_call rfl rfl (by k_ne) rfl H.f_uLoad (nm_uLoad L) rfl ⟨ds0, ?_⟩; walk_nrmf uLoadFn)
    | (refine goes_oper_k rfl rfl (by k_ne) (fun K hK => ?_); go_simp; refine hK _ _ ⟨?_, ?_⟩; (focus (rw [listed_nil (by simp [go_sem, *])]; exact ds0)); clear hK K; try w_num)
    | (rw [stepG_cond (t := true) (by simp [Act.eval]; omega)]; simp only [goes_go, if_true, if_false, Bool.false_eq_true, ↓reduceIte]; refine ⟨ds0, ?_⟩)
    | (rw [stepG_cond (t := false) (by simp [Act.eval]; omega)]; simp only [goes_go, if_true, if_false, Bool.false_eq_true, ↓reduceIte]; refine ⟨ds0, ?_⟩)
    | (refine goes_exit rfl ?_; refine ⟨ds0, ?_⟩))
  refine Goes.stop (fun w₁ h₁ => ?_)
  replace hF := (fe_rely hF2) hF h₁
  clear h₁
  refine ⟨rfl, fun v hv hw => ?_⟩
  rcases Nat.eq_zero_or_pos v with rfl | hvp
  · replace hw : WgAt E.ty E.Wg w₁ 0 0 := by simpa using hw
    refine ⟨_, stepG_load_atomic (v := 0) rfl rfl (by k_ne) rfl H.f_loadU64 (x_loadU64_n L) (x_loadU64_b L) (x_loadU64_x L) .u64 (x_loadU64_f L) rfl hw.cellSt, fun _ => ⟨50, ?_⟩, fun h => absurd rfl h⟩
    clear hw
    walk_nrm
    iterate 31 (refine Goes.step rfl (fun _ h₁ => ?_); replace hF := (fe_rely hF2) hF h₁; clear h₁; first
      | (rw [stepG_seq]; simp only [goes_go]; refine ⟨ds0, ?_⟩)
      | (rw [stepG_region_end]; simp only [goes_go]; refine ⟨ds0, ?_⟩)
      | (rw [stepG_skip]; simp only [goes_go]; refine ⟨ds0, ?_⟩)
      | (rw [stepG_ret']; simp only [goes_go]; refine ⟨ds0, ?_⟩)
      | (rw [stepG_block]; simp only [goes_go]; refine ⟨ds0, ?_⟩)
      | (rw [stepG_loop]; simp only [goes_go]; refine ⟨ds0, ?_⟩)
      | (rw [stepG_inBlock]; simp only [goes_go]; refine ⟨ds0, ?_⟩)
      | (rw [stepG_inLoop]; simp only [goes_go]; refine ⟨ds0, ?_⟩)
      | (rw [stepG_end]; simp only [goes_go]; refine ⟨ds0, ?_⟩)
      | (rw [stepG_region]; simp only [goes_go, List.size_toArray, List.length_cons, List.length_nil, Nat.reduceAdd, Nat.zero_add, List.range, List.range.loop]; refine ⟨ds0, ?_⟩)
      | (rw [stepG_cond (t := true) rfl]; simp only [goes_go, if_true, if_false, Bool.false_eq_true, ↓reduceIte]; refine ⟨ds0, ?_⟩)
      | (rw [stepG_cond (t := false) rfl]; simp only [goes_go, if_true, if_false, Bool.false_eq_true, ↓reduceIte]; refine ⟨ds0, ?_⟩)
      | (rw [stepG_unwanted rfl rfl]; simp only [goes_go]; refine ⟨ds0, ?_⟩; walk_nrm)
      | (refine goes_leave1 rfl rfl H.f_uLoad rfl ⟨ds0, ?_⟩; walk_nrm)
      | (refine goes_leave0 rfl rfl H.f_uLoad rfl ⟨ds0, ?_⟩; walk_nrm)
      | (refine goes_call rfl rfl (by k_ne) rfl H.f_uLoad (nm_uLoad L) rfl ⟨ds0, ?_⟩; walk_nrmf uLoadFn)
      | (refine goes_oper_k rfl rfl (by k_ne) (fun K hK => ?_); go_simp; refine hK _ _ ⟨?_, ?_⟩; (focus (rw [listed_nil (by simp [go_sem, *])]; exact ds0)); clear hK K; try w_num)
      | (rw [stepG_cond (t := true) (by simp [Act.eval]; omega)]; simp only [goes_go, if_true, if_false, Bool.false_eq_true, ↓reduceIte]; refine ⟨ds0, ?_⟩)
      | (rw [stepG_cond (t := false) (by simp [Act.eval]; omega)]; simp only [goes_go, if_true, if_false, Bool.false_eq_true, ↓reduceIte]; refine ⟨ds0, ?_⟩)
      | (refine goes_exit rfl ?_; refine ⟨ds0, ?_⟩))
    refine Goes.stop (fun w₅ h₁ => ?_)
    replace hF := (fe_rely hF2) hF h₁
    clear h₁
    refine ⟨rfl, _, stepG_mark0 .enable (by simp) rfl rfl (by k_ne) rfl H.f_enable (x_enable_n L) (x_enable_b L) (x_enable_x L) (x_enable_f L), 12, ?_⟩
    walk_nrm
    iterate 3 (refine Goes.step rfl (fun _ h₁ => ?_); replace hF := (fe_rely hF2) hF h₁; clear h₁; first
      | (rw [stepG_seq]; simp only [goes_go]; refine ⟨ds0, ?_⟩)
      | (rw [stepG_region_end]; simp only [goes_go]; refine ⟨ds0, ?_⟩)
      | (rw [stepG_skip]; simp only [goes_go]; refine ⟨ds0, ?_⟩)
      | (rw [stepG_ret']; simp only [goes_go]; refine ⟨ds0, ?_⟩)
      | (rw [stepG_block]; simp only [goes_go]; refine ⟨ds0, ?_⟩)
      | (rw [stepG_loop]; simp only [goes_go]; refine ⟨ds0, ?_⟩)
      | (rw [stepG_inBlock]; simp only [goes_go]; refine ⟨ds0, ?_⟩)
      | (rw [stepG_inLoop]; simp only [goes_go]; refine ⟨ds0, ?_⟩)
      | (rw [stepG_end]; simp only [goes_go]; refine ⟨ds0, ?_⟩)
      | (rw [stepG_region]; simp only [goes_go, List.size_toArray, List.length_cons, List.length_nil, Nat.reduceAdd, Nat.zero_add, List.range, List.range.loop]; refine ⟨ds0, ?_⟩)
      | (rw [stepG_cond (t := true) rfl]; simp only [goes_go, if_true, if_false, Bool.false_eq_true, ↓reduceIte]; refine ⟨ds0, ?_⟩)
      | (rw [stepG_cond (t := false) rfl]; simp only [goes_go, if_true, if_false, Bool.false_eq_true, ↓reduceIte]; refine ⟨ds0, ?_⟩)
      | (rw [stepG_unwanted rfl rfl]; simp only [goes_go]; refine ⟨ds0, ?_⟩; walk_nrm)
      | (refine goes_oper_k rfl rfl (by k_ne) (fun K hK => ?_); go_simp; refine hK _ _ ⟨?_, ?_⟩; (focus (rw [listed_nil (by simp [go_sem, *])]; exact ds0)); clear hK K; try w_num)
      | (rw [stepG_cond (t := true) (by simp [Act.eval]; omega)]; simp only [goes_go, if_true, if_false, Bool.false_eq_true, ↓reduceIte]; refine ⟨ds0, ?_⟩)
      | (rw [stepG_cond (t := false) (by simp [Act.eval]; omega)]; simp only [goes_go, if_true, if_false, Bool.false_eq_true, ↓reduceIte]; refine ⟨ds0, ?_⟩)
      | (refine goes_exit rfl ?_; refine ⟨ds0, ?_⟩))
    refine Goes.step rfl (fun _ h₁ => ?_); replace hF := (fe_rely hF2) hF h₁; clear h₁
    refine goes_oper_k rfl rfl (by k_ne) (fun K hK => ?_)
    have hcv := run_convert_to_unsafe (P := E.P) H.underlying_tWgP H.underlying_tUP H.room_tWg (live0 hF.2).choose_spec
    have hce := fun es => events_convert_to_unsafe (P := E.P) H.underlying_tWgP H.underlying_tUP H.room_tWg (live0 hF.2).choose_spec es
    go_simp
    refine hK _ _ ⟨?_, ?_⟩
    focus (rw [listed_nil (by simp [go_sem, hce])]; exact ds0)
    clear hK K hcv hce
    refine Goes.stop (fun w₆ h₁ => ?_)
    replace hF := (fe_rely hF2) hF h₁
    clear h₁
    refine ⟨rfl, _, stepG_markAt .acquire (by simp) rfl rfl (by k_ne) rfl H.f_acquire (x_acquire_n L) (x_acquire_b L) (x_acquire_x L) (x_acquire_f L) (by simp [Act.eval, stA]), fun hfd => ⟨mT + 40, ?_⟩⟩
    replace hF : (F w₆ ∧ E.live w₆) ∧ E.found w₆ := ⟨hF, hfd⟩
    clear hfd
    walk_nrm
    iterate 20 (refine Goes.step rfl (fun _ h₁ => ?_); replace hF := (at_rely hF2) hF h₁; clear h₁; first
      | (rw [stepG_seq]; simp only [goes_go]; refine ⟨ds0, ?_⟩)
      | (rw [stepG_region_end]; simp only [goes_go]; refine ⟨ds0, ?_⟩)
      | (rw [stepG_skip]; simp only [goes_go]; refine ⟨ds0, ?_⟩)
      | (rw [stepG_ret']; simp only [goes_go]; refine ⟨ds0, ?_⟩)
      | (rw [stepG_block]; simp only [goes_go]; refine ⟨ds0, ?_⟩)
      | (rw [stepG_loop]; simp only [goes_go]; refine ⟨ds0, ?_⟩)
      | (rw [stepG_inBlock]; simp only [goes_go]; refine ⟨ds0, ?_⟩)
      | (rw [stepG_inLoop]; simp only [goes_go]; refine ⟨ds0, ?_⟩)
      | (rw [stepG_end]; simp only [goes_go]; refine ⟨ds0, ?_⟩)
      | (rw [stepG_region]; simp only [goes_go, List.size_toArray, List.length_cons, List.length_nil, Nat.reduceAdd, Nat.zero_add, List.range, List.range.loop]; refine ⟨ds0, ?_⟩)
      | (rw [stepG_cond (t := true) rfl]; simp only [goes_go, if_true, if_false, Bool.false_eq_true, ↓reduceIte]; refine ⟨ds0, ?_⟩)
      | (rw [stepG_cond (t := false) rfl]; simp only [goes_go, if_true, if_false, Bool.false_eq_true, ↓reduceIte]; refine ⟨ds0, ?_⟩)
      | (rw [stepG_unwanted rfl rfl]; simp only [goes_go]; refine ⟨ds0, ?_⟩; walk_nrm)
      | (refine goes_leave1 rfl rfl H.f_wait rfl ⟨ds0, ?_⟩; walk_nrm)
      | (refine goes_leave0 rfl rfl H.f_wait rfl ⟨ds0, ?_⟩; walk_nrm)
      | (refine goes_call rfl rfl (by k_ne) rfl H.f_wait (nm_wait L) rfl ⟨ds0, ?_⟩; walk_nrmf waitFn)
      | (refine goes_oper_k rfl rfl (by k_ne) (fun K hK => ?_); go_simp; refine hK _ _ ⟨?_, ?_⟩; (focus (rw [listed_nil (by simp [go_sem, *])]; exact ds0)); clear hK K; try w_num)
      | (rw [stepG_cond (t := true) (by simp [Act.eval]; omega)]; simp only [goes_go, if_true, if_false, Bool.false_eq_true, ↓reduceIte]; refine ⟨ds0, ?_⟩)
      | (rw [stepG_cond (t := false) (by simp [Act.eval]; omega)]; simp only [goes_go, if_true, if_false, Bool.false_eq_true, ↓reduceIte]; refine ⟨ds0, ?_⟩)
      | (refine goes_exit rfl ?_; refine ⟨ds0, ?_⟩))
    exact Goes.mono (hT _ hF.1.1 hF.1.2 hF.2) (by omega)
  · obtain ⟨S, hS⟩ : ∃ S : Int, (v : Int) * KK = S := ⟨_, rfl⟩
    have a1 : S / 4294967296 = (v : Int) := by rw [← hS]; simp only [KK]; omega
    have b1 : bits .and .u64 S 2147483648 = 0 := by rw [← hS]; have := st_flag v 0 (by omega) (by omega); simpa [KK] using this
    have b2 : bits .and .u64 S 2147483647 = 0 := by rw [← hS]; have := st_waiters v 0 (by omega) (by omega); simpa [KK] using this
    have c1 : IntKind.i32.wrap (v : Int) = (v : Int) := by rw [IntKind.wrap_i32]; omega
    have w1 : IntKind.u64.wrap (S + 1) = S + 1 := by rw [IntKind.wrap_u64, ← hS]; simp only [KK]; omega
    have q3 : decide ((v : Int) < 0) = false := decide_eq_false (by omega)
    have q4 : decide (0 < (v : Int)) = true := decide_eq_true (by omega)
    have q5 : ((v : Int) == 0) = false := by simp; omega
    have q6 : decide ((v : Int) = 0) = false := decide_eq_false (by omega)
    rw [hS] at hw
    refine ⟨_, stepG_load_atomic (v := S) rfl rfl (by k_ne) rfl H.f_loadU64 (x_loadU64_n L) (x_loadU64_b L) (x_loadU64_x L) .u64 (x_loadU64_f L) rfl hw.cellSt, fun h0 => absurd h0 (by omega), fun _ => ⟨60, ?_⟩⟩
    clear hw
    walk_nrm
    iterate 48 (refine Goes.step rfl (fun _ h₁ => ?_); replace hF := (fe_rely hF2) hF h₁; clear h₁; first
      | (rw [stepG_seq]; simp only [goes_go]; refine ⟨ds0, ?_⟩)
      | (rw [stepG_region_end]; simp only [goes_go]; refine ⟨ds0, ?_⟩)
      | (rw [stepG_skip]; simp only [goes_go]; refine ⟨ds0, ?_⟩)
      | (rw [stepG_ret']; simp only [goes_go]; refine ⟨ds0, ?_⟩)
      | (rw [stepG_block]; simp only [goes_go]; refine ⟨ds0, ?_⟩)
      | (rw [stepG_loop]; simp only [goes_go]; refine ⟨ds0, ?_⟩)
      | (rw [stepG_inBlock]; simp only [goes_go]; refine ⟨ds0, ?_⟩)
      | (rw [stepG_inLoop]; simp only [goes_go]; refine ⟨ds0, ?_⟩)
      | (rw [stepG_end]; simp only [goes_go]; refine ⟨ds0, ?_⟩)
      | (rw [stepG_region]; simp only [goes_go, List.size_toArray, List.length_cons, List.length_nil, Nat.reduceAdd, Nat.zero_add, List.range, List.range.loop]; refine ⟨ds0, ?_⟩)
      | (rw [stepG_cond (t := true) rfl]; simp only [goes_go, if_true, if_false, Bool.false_eq_true, ↓reduceIte]; refine ⟨ds0, ?_⟩)
      | (rw [stepG_cond (t := false) rfl]; simp only [goes_go, if_true, if_false, Bool.false_eq_true, ↓reduceIte]; refine ⟨ds0, ?_⟩)
      | (rw [stepG_unwanted rfl rfl]; simp only [goes_go]; refine ⟨ds0, ?_⟩; walk_nrm)
      | (refine goes_leave1 rfl rfl H.f_uLoad rfl ⟨ds0, ?_⟩; walk_nrm)
      | (refine goes_leave0 rfl rfl H.f_uLoad rfl ⟨ds0, ?_⟩; walk_nrm)
      | (refine goes_leave1 rfl rfl H.f_uCas rfl ⟨ds0, ?_⟩; walk_nrm)
      | (refine goes_leave0 rfl rfl H.f_uCas rfl ⟨ds0, ?_⟩; walk_nrm)
      | (refine goes_call rfl rfl (by k_ne) rfl H.f_uLoad (nm_uLoad L) rfl ⟨ds0, ?_⟩; walk_nrmf uLoadFn)
      | (refine goes_call rfl rfl (by k_ne) rfl H.f_uCas (nm_uCas L) rfl ⟨ds0, ?_⟩; walk_nrmf uCasFn)
      | (refine goes_oper_k rfl rfl (by k_ne) (fun K hK => ?_); go_simp; refine hK _ _ ⟨?_, ?_⟩; (focus (rw [listed_nil (by simp [go_sem, *])]; exact ds0)); clear hK K; try w_num)
      | (rw [stepG_cond (t := true) (by simp [Act.eval]; omega)]; simp only [goes_go, if_true, if_false, Bool.false_eq_true, ↓reduceIte]; refine ⟨ds0, ?_⟩)
      | (rw [stepG_cond (t := false) (by simp [Act.eval]; omega)]; simp only [goes_go, if_true, if_false, Bool.false_eq_true, ↓reduceIte]; refine ⟨ds0, ?_⟩)
      | (refine goes_exit rfl ?_; refine ⟨ds0, ?_⟩))
    refine Goes.stop (fun w₂ h₁ => ?_)
    replace hF := (fe_rely hF2) hF h₁
    clear h₁
    refine ⟨rfl, fun v' hv' hw => ⟨fun e => ?_, fun e => ?_⟩⟩
    · subst e
      rw [hS] at hw ⊢
      refine ⟨_, (stepG_cas_hit (v := S) (n := S + 1) rfl rfl (by k_ne) rfl H.f_casU64 (x_casU64_n L) (x_casU64_b L) (x_casU64_x L) .u64 (x_casU64_f L) rfl rfl rfl hw.cellSt (hw.thaw 0)).trans (by rfl), 70, ?_⟩
      replace hF : F (w₂.setCell (stA E.Wg) (.int .u64 (S + 1))) ∧ E.live (w₂.setCell (stA E.Wg) (.int .u64 (S + 1))) := ⟨hF2 _ _ (rs_set HG hF.2 hw _) hF.1, live_set HG hF.2 hw _⟩
      clear hw
      walk_nrm
      iterate 19 (refine Goes.step rfl (fun _ h₁ => ?_); replace hF := (fe_rely hF2) hF h₁; clear h₁; first
        | (rw [stepG_seq]; simp only [goes_go]; refine ⟨ds0, ?_⟩)
        | (rw [stepG_region_end]; simp only [goes_go]; refine ⟨ds0, ?_⟩)
        | (rw [stepG_skip]; simp only [goes_go]; refine ⟨ds0, ?_⟩)
        | (rw [stepG_ret']; simp only [goes_go]; refine ⟨ds0, ?_⟩)
        | (rw [stepG_block]; simp only [goes_go]; refine ⟨ds0, ?_⟩)
        | (rw [stepG_loop]; simp only [goes_go]; refine ⟨ds0, ?_⟩)
        | (rw [stepG_inBlock]; simp only [goes_go]; refine ⟨ds0, ?_⟩)
        | (rw [stepG_inLoop]; simp only [goes_go]; refine ⟨ds0, ?_⟩)
        | (rw [stepG_end]; simp only [goes_go]; refine ⟨ds0, ?_⟩)
        | (rw [stepG_region]; simp only [goes_go, List.size_toArray, List.length_cons, List.length_nil, Nat.reduceAdd, Nat.zero_add, List.range, List.range.loop]; refine ⟨ds0, ?_⟩)
        | (rw [stepG_cond (t := true) rfl]; simp only [goes_go, if_true, if_false, Bool.false_eq_true, ↓reduceIte]; refine ⟨ds0, ?_⟩)
        | (rw [stepG_cond (t := false) rfl]; simp only [goes_go, if_true, if_false, Bool.false_eq_true, ↓reduceIte]; refine ⟨ds0, ?_⟩)
        | (rw [stepG_unwanted rfl rfl]; simp only [goes_go]; refine ⟨ds0, ?_⟩; walk_nrm)
        | (refine goes_leave1 rfl rfl H.f_uCas rfl ⟨ds0, ?_⟩; walk_nrm)
        | (refine goes_leave0 rfl rfl H.f_uCas rfl ⟨ds0, ?_⟩; walk_nrm)
        | (refine goes_call rfl rfl (by k_ne) rfl H.f_uCas (nm_uCas L) rfl ⟨ds0, ?_⟩; walk_nrmf uCasFn)
        | (refine goes_oper_k rfl rfl (by k_ne) (fun K hK => ?_); go_simp; refine hK _ _ ⟨?_, ?_⟩; (focus (rw [listed_nil (by simp [go_sem, *])]; exact ds0)); clear hK K; try w_num)
        | (rw [stepG_cond (t := true) (by simp [Act.eval]; omega)]; simp only [goes_go, if_true, if_false, Bool.false_eq_true, ↓reduceIte]; refine ⟨ds0, ?_⟩)
        | (rw [stepG_cond (t := false) (by simp [Act.eval]; omega)]; simp only [goes_go, if_true, if_false, Bool.false_eq_true, ↓reduceIte]; refine ⟨ds0, ?_⟩)
        | (refine goes_exit rfl ?_; refine ⟨ds0, ?_⟩))
      refine Goes.step rfl (fun _ h₁ => ?_); replace hF := (fe_rely hF2) hF h₁; clear h₁
      refine goes_oper_k rfl rfl (by k_ne) (fun K hK => ?_)
      have hcv := run_convert_to_unsafe (P := E.P) H.underlying_tPU32 H.underlying_tUP H.room_tU32 (live1 hF.2).choose_spec
      have hce := fun es => events_convert_to_unsafe (P := E.P) H.underlying_tPU32 H.underlying_tUP H.room_tU32 (live1 hF.2).choose_spec es
      go_simp
      refine hK _ _ ⟨?_, ?_⟩
      focus (rw [listed_nil (by simp [go_sem, hce])]; exact ds0)
      clear hK K hcv hce
      refine Goes.step rfl (fun _ h₁ => ?_); replace hF := (fe_rely hF2) hF h₁; clear h₁
      rw [stepG_markAt .write (by simp) rfl rfl (by k_ne) rfl H.f_raceWrite (x_raceWrite_n L) (x_raceWrite_b L) (x_raceWrite_x L) (x_raceWrite_f L) (ad := ⟨E.Wg, 1, none⟩) (by simp [Act.eval])]
      simp only [goes_go]
      refine ⟨⟨fun _ _ => rfl, fun e he => ?_⟩, ?_⟩
      focus (rw [Array.mem_singleton] at he; subst he; exact said_write _ rfl)
      walk_nrm
      iterate 23 (refine Goes.step rfl (fun _ h₁ => ?_); replace hF := (fe_rely hF2) hF h₁; clear h₁; first
        | (rw [stepG_seq]; simp only [goes_go]; refine ⟨ds0, ?_⟩)
        | (rw [stepG_region_end]; simp only [goes_go]; refine ⟨ds0, ?_⟩)
        | (rw [stepG_skip]; simp only [goes_go]; refine ⟨ds0, ?_⟩)
        | (rw [stepG_ret']; simp only [goes_go]; refine ⟨ds0, ?_⟩)
        | (rw [stepG_block]; simp only [goes_go]; refine ⟨ds0, ?_⟩)
        | (rw [stepG_loop]; simp only [goes_go]; refine ⟨ds0, ?_⟩)
        | (rw [stepG_inBlock]; simp only [goes_go]; refine ⟨ds0, ?_⟩)
        | (rw [stepG_inLoop]; simp only [goes_go]; refine ⟨ds0, ?_⟩)
        | (rw [stepG_end]; simp only [goes_go]; refine ⟨ds0, ?_⟩)
        | (rw [stepG_region]; simp only [goes_go, List.size_toArray, List.length_cons, List.length_nil, Nat.reduceAdd, Nat.zero_add, List.range, List.range.loop]; refine ⟨ds0, ?_⟩)
        | (rw [stepG_cond (t := true) rfl]; simp only [goes_go, if_true, if_false, Bool.false_eq_true, ↓reduceIte]; refine ⟨ds0, ?_⟩)
        | (rw [stepG_cond (t := false) rfl]; simp only [goes_go, if_true, if_false, Bool.false_eq_true, ↓reduceIte]; refine ⟨ds0, ?_⟩)
        | (rw [stepG_unwanted rfl rfl]; simp only [goes_go]; refine ⟨ds0, ?_⟩; walk_nrm)
        | (refine goes_oper_k rfl rfl (by k_ne) (fun K hK => ?_); go_simp; refine hK _ _ ⟨?_, ?_⟩; (focus (rw [listed_nil (by simp [go_sem, *])]; exact ds0)); clear hK K; try w_num)
        | (rw [stepG_cond (t := true) (by simp [Act.eval]; omega)]; simp only [goes_go, if_true, if_false, Bool.false_eq_true, ↓reduceIte]; refine ⟨ds0, ?_⟩)
        | (rw [stepG_cond (t := false) (by simp [Act.eval]; omega)]; simp only [goes_go, if_true, if_false, Bool.false_eq_true, ↓reduceIte]; refine ⟨ds0, ?_⟩)
        | (refine goes_exit rfl ?_; refine ⟨ds0, ?_⟩))
      refine Goes.stop (fun w₃ h₁ => ?_)
      replace hF := (fe_rely hF2) hF h₁
      clear h₁
      refine ⟨rfl, rfl, fun ⟨st, hw⟩ => stepG_semacquire_wait rfl rfl rfl H.f_semacquire (x_semacquire_n L) (x_semacquire_b L) (x_semacquire_x L) (x_semacquire_f L) (by simp [Act.eval, smA]) hw.cellSm, fun hf => ?_⟩
      refine ⟨_, (stepG_semacquire (n := 1) rfl rfl (by k_ne) rfl H.f_semacquire (x_semacquire_n L) (x_semacquire_b L) (x_semacquire_x L) (x_semacquire_f L) (by simp [Act.eval, smA]) hf.cellSm (by k_ne) (hf.thaw 1)).trans (by rfl), 30, ?_⟩
      replace hF : F (w₃.setCell (smA E.Wg) (.int .u32 0)) ∧ E.live (w₃.setCell (smA E.Wg) (.int .u32 0)) := ⟨hF2 _ _ (rs_setm HG hF.2 hf _) hF.1, live_setm HG hF.2 hf _⟩
      clear hf
      walk_nrm
      iterate 16 (refine Goes.step rfl (fun _ h₁ => ?_); replace hF := (fe_rely hF2) hF h₁; clear h₁; first
        | (rw [stepG_seq]; simp only [goes_go]; refine ⟨ds0, ?_⟩)
        | (rw [stepG_region_end]; simp only [goes_go]; refine ⟨ds0, ?_⟩)
        | (rw [stepG_skip]; simp only [goes_go]; refine ⟨ds0, ?_⟩)
        | (rw [stepG_ret']; simp only [goes_go]; refine ⟨ds0, ?_⟩)
        | (rw [stepG_block]; simp only [goes_go]; refine ⟨ds0, ?_⟩)
        | (rw [stepG_loop]; simp only [goes_go]; refine ⟨ds0, ?_⟩)
        | (rw [stepG_inBlock]; simp only [goes_go]; refine ⟨ds0, ?_⟩)
        | (rw [stepG_inLoop]; simp only [goes_go]; refine ⟨ds0, ?_⟩)
        | (rw [stepG_end]; simp only [goes_go]; refine ⟨ds0, ?_⟩)
        | (rw [stepG_region]; simp only [goes_go, List.size_toArray, List.length_cons, List.length_nil, Nat.reduceAdd, Nat.zero_add, List.range, List.range.loop]; refine ⟨ds0, ?_⟩)
        | (rw [stepG_cond (t := true) rfl]; simp only [goes_go, if_true, if_false, Bool.false_eq_true, ↓reduceIte]; refine ⟨ds0, ?_⟩)
        | (rw [stepG_cond (t := false) rfl]; simp only [goes_go, if_true, if_false, Bool.false_eq_true, ↓reduceIte]; refine ⟨ds0, ?_⟩)
        | (rw [stepG_unwanted rfl rfl]; simp only [goes_go]; refine ⟨ds0, ?_⟩; walk_nrm)
        | (refine goes_leave1 rfl rfl H.f_uLoad rfl ⟨ds0, ?_⟩; walk_nrm)
        | (refine goes_leave0 rfl rfl H.f_uLoad rfl ⟨ds0, ?_⟩; walk_nrm)
        | (refine goes_call rfl rfl (by k_ne) rfl H.f_uLoad (nm_uLoad L) rfl ⟨ds0, ?_⟩; walk_nrmf uLoadFn)
        | (refine goes_oper_k rfl rfl (by k_ne) (fun K hK => ?_); go_simp; refine hK _ _ ⟨?_, ?_⟩; (focus (rw [listed_nil (by simp [go_sem, *])]; exact ds0)); clear hK K; try w_num)
        | (rw [stepG_cond (t := true) (by simp [Act.eval]; omega)]; simp only [goes_go, if_true, if_false, Bool.false_eq_true, ↓reduceIte]; refine ⟨ds0, ?_⟩)
        | (rw [stepG_cond (t := false) (by simp [Act.eval]; omega)]; simp only [goes_go, if_true, if_false, Bool.false_eq_true, ↓reduceIte]; refine ⟨ds0, ?_⟩)
        | (refine goes_exit rfl ?_; refine ⟨ds0, ?_⟩))
      refine Goes.stop (fun w₄ h₁ => ?_)
      replace hF := (fe_rely hF2) hF h₁
      clear h₁
      refine ⟨rfl, fun hw => ⟨_, stepG_load_atomic (v := 0) rfl rfl (by k_ne) rfl H.f_loadU64 (x_loadU64_n L) (x_loadU64_b L) (x_loadU64_x L) .u64 (x_loadU64_f L) rfl hw.cellSt, 30, ?_⟩⟩
      clear hw
      walk_nrm
      iterate 11 (refine Goes.step rfl (fun _ h₁ => ?_); replace hF := (fe_rely hF2) hF h₁; clear h₁; first
        | (rw [stepG_seq]; simp only [goes_go]; refine ⟨ds0, ?_⟩)
        | (rw [stepG_region_end]; simp only [goes_go]; refine ⟨ds0, ?_⟩)
        | (rw [stepG_skip]; simp only [goes_go]; refine ⟨ds0, ?_⟩)
        | (rw [stepG_ret']; simp only [goes_go]; refine ⟨ds0, ?_⟩)
        | (rw [stepG_block]; simp only [goes_go]; refine ⟨ds0, ?_⟩)
        | (rw [stepG_loop]; simp only [goes_go]; refine ⟨ds0, ?_⟩)
        | (rw [stepG_inBlock]; simp only [goes_go]; refine ⟨ds0, ?_⟩)
        | (rw [stepG_inLoop]; simp only [goes_go]; refine ⟨ds0, ?_⟩)
        | (rw [stepG_end]; simp only [goes_go]; refine ⟨ds0, ?_⟩)
        | (rw [stepG_region]; simp only [goes_go, List.size_toArray, List.length_cons, List.length_nil, Nat.reduceAdd, Nat.zero_add, List.range, List.range.loop]; refine ⟨ds0, ?_⟩)
        | (rw [stepG_cond (t := true) rfl]; simp only [goes_go, if_true, if_false, Bool.false_eq_true, ↓reduceIte]; refine ⟨ds0, ?_⟩)
        | (rw [stepG_cond (t := false) rfl]; simp only [goes_go, if_true, if_false, Bool.false_eq_true, ↓reduceIte]; refine ⟨ds0, ?_⟩)
        | (rw [stepG_unwanted rfl rfl]; simp only [goes_go]; refine ⟨ds0, ?_⟩; walk_nrm)
        | (refine goes_leave1 rfl rfl H.f_uLoad rfl ⟨ds0, ?_⟩; walk_nrm)
        | (refine goes_leave0 rfl rfl H.f_uLoad rfl ⟨ds0, ?_⟩; walk_nrm)
        | (refine goes_call rfl rfl (by k_ne) rfl H.f_uLoad (nm_uLoad L) rfl ⟨ds0, ?_⟩; walk_nrmf uLoadFn)
        | (refine goes_oper_k rfl rfl (by k_ne) (fun K hK => ?_); go_simp; refine hK _ _ ⟨?_, ?_⟩; (focus (rw [listed_nil (by simp [go_sem, *])]; exact ds0)); clear hK K; try w_num)
        | (rw [stepG_cond (t := true) (by simp [Act.eval]; omega)]; simp only [goes_go, if_true, if_false, Bool.false_eq_true, ↓reduceIte]; refine ⟨ds0, ?_⟩)
        | (rw [stepG_cond (t := false) (by simp [Act.eval]; omega)]; simp only [goes_go, if_true, if_false, Bool.false_eq_true, ↓reduceIte]; refine ⟨ds0, ?_⟩)
        | (refine goes_exit rfl ?_; refine ⟨ds0, ?_⟩))
      refine Goes.stop (fun w₅ h₁ => ?_)
      replace hF := (fe_rely hF2) hF h₁
      clear h₁
      refine ⟨rfl, _, stepG_mark0 .enable (by simp) rfl rfl (by k_ne) rfl H.f_enable (x_enable_n L) (x_enable_b L) (x_enable_x L) (x_enable_f L), 12, ?_⟩
      walk_nrm
      iterate 3 (refine Goes.step rfl (fun _ h₁ => ?_); replace hF := (fe_rely hF2) hF h₁; clear h₁; first
        | (rw [stepG_seq]; simp only [goes_go]; refine ⟨ds0, ?_⟩)
        | (rw [stepG_region_end]; simp only [goes_go]; refine ⟨ds0, ?_⟩)
        | (rw [stepG_skip]; simp only [goes_go]; refine ⟨ds0, ?_⟩)
        | (rw [stepG_ret']; simp only [goes_go]; refine ⟨ds0, ?_⟩)
        | (rw [stepG_block]; simp only [goes_go]; refine ⟨ds0, ?_⟩)
        | (rw [stepG_loop]; simp only [goes_go]; refine ⟨ds0, ?_⟩)
        | (rw [stepG_inBlock]; simp only [goes_go]; refine ⟨ds0, ?_⟩)
        | (rw [stepG_inLoop]; simp only [goes_go]; refine ⟨ds0, ?_⟩)
        | (rw [stepG_end]; simp only [goes_go]; refine ⟨ds0, ?_⟩)
        | (rw [stepG_region]; simp only [goes_go, List.size_toArray, List.length_cons, List.length_nil, Nat.reduceAdd, Nat.zero_add, List.range, List.range.loop]; refine ⟨ds0, ?_⟩)
        | (rw [stepG_cond (t := true) rfl]; simp only [goes_go, if_true, if_false, Bool.false_eq_true, ↓reduceIte]; refine ⟨ds0, ?_⟩)
        | (rw [stepG_cond (t := false) rfl]; simp only [goes_go, if_true, if_false, Bool.false_eq_true, ↓reduceIte]; refine ⟨ds0, ?_⟩)
        | (rw [stepG_unwanted rfl rfl]; simp only [goes_go]; refine ⟨ds0, ?_⟩; walk_nrm)
        | (refine goes_oper_k rfl rfl (by k_ne) (fun K hK => ?_); go_simp; refine hK _ _ ⟨?_, ?_⟩; (focus (rw [listed_nil (by simp [go_sem, *])]; exact ds0)); clear hK K; try w_num)
        | (rw [stepG_cond (t := true) (by simp [Act.eval]; omega)]; simp only [goes_go, if_true, if_false, Bool.false_eq_true, ↓reduceIte]; refine ⟨ds0, ?_⟩)
        | (rw [stepG_cond (t := false) (by simp [Act.eval]; omega)]; simp only [goes_go, if_true, if_false, Bool.false_eq_true, ↓reduceIte]; refine ⟨ds0, ?_⟩)
        | (refine goes_exit rfl ?_; refine ⟨ds0, ?_⟩))
      refine Goes.step rfl (fun _ h₁ => ?_); replace hF := (fe_rely hF2) hF h₁; clear h₁
      refine goes_oper_k rfl rfl (by k_ne) (fun K hK => ?_)
      have hcv := run_convert_to_unsafe (P := E.P) H.underlying_tWgP H.underlying_tUP H.room_tWg (live0 hF.2).choose_spec
      have hce := fun es => events_convert_to_unsafe (P := E.P) H.underlying_tWgP H.underlying_tUP H.room_tWg (live0 hF.2).choose_spec es
      go_simp
      refine hK _ _ ⟨?_, ?_⟩
      focus (rw [listed_nil (by simp [go_sem, hce])]; exact ds0)
      clear hK K hcv hce
      refine Goes.stop (fun w₆ h₁ => ?_)
      replace hF := (fe_rely hF2) hF h₁
      clear h₁
      refine ⟨rfl, _, stepG_markAt .acquire (by simp) rfl rfl (by k_ne) rfl H.f_acquire (x_acquire_n L) (x_acquire_b L) (x_acquire_x L) (x_acquire_f L) (by simp [Act.eval, stA]), fun hfd => ⟨mT + 40, ?_⟩⟩
      replace hF : (F w₆ ∧ E.live w₆) ∧ E.found w₆ := ⟨hF, hfd⟩
      clear hfd
      walk_nrm
      iterate 10 (refine Goes.step rfl (fun _ h₁ => ?_); replace hF := (at_rely hF2) hF h₁; clear h₁; first
        | (rw [stepG_seq]; simp only [goes_go]; refine ⟨ds0, ?_⟩)
        | (rw [stepG_region_end]; simp only [goes_go]; refine ⟨ds0, ?_⟩)
        | (rw [stepG_skip]; simp only [goes_go]; refine ⟨ds0, ?_⟩)
        | (rw [stepG_ret']; simp only [goes_go]; refine ⟨ds0, ?_⟩)
        | (rw [stepG_block]; simp only [goes_go]; refine ⟨ds0, ?_⟩)
        | (rw [stepG_loop]; simp only [goes_go]; refine ⟨ds0, ?_⟩)
        | (rw [stepG_inBlock]; simp only [goes_go]; refine ⟨ds0, ?_⟩)
        | (rw [stepG_inLoop]; simp only [goes_go]; refine ⟨ds0, ?_⟩)
        | (rw [stepG_end]; simp only [goes_go]; refine ⟨ds0, ?_⟩)
        | (rw [stepG_region]; simp only [goes_go, List.size_toArray, List.length_cons, List.length_nil, Nat.reduceAdd, Nat.zero_add, List.range, List.range.loop]; refine ⟨ds0, ?_⟩)
        | (rw [stepG_cond (t := true) rfl]; simp only [goes_go, if_true, if_false, Bool.false_eq_true, ↓reduceIte]; refine ⟨ds0, ?_⟩)
        | (rw [stepG_cond (t := false) rfl]; simp only [goes_go, if_true, if_false, Bool.false_eq_true, ↓reduceIte]; refine ⟨ds0, ?_⟩)
        | (rw [stepG_unwanted rfl rfl]; simp only [goes_go]; refine ⟨ds0, ?_⟩; walk_nrm)
        | (refine goes_leave1 rfl rfl H.f_wait rfl ⟨ds0, ?_⟩; walk_nrm)
        | (refine goes_leave0 rfl rfl H.f_wait rfl ⟨ds0, ?_⟩; walk_nrm)
        | (refine goes_call rfl rfl (by k_ne) rfl H.f_wait (nm_wait L) rfl ⟨ds0, ?_⟩; walk_nrmf waitFn)
        | (refine goes_oper_k rfl rfl (by k_ne) (fun K hK => ?_); go_simp; refine hK _ _ ⟨?_, ?_⟩; (focus (rw [listed_nil (by simp [go_sem, *])]; exact ds0)); clear hK K; try w_num)
        | (rw [stepG_cond (t := true) (by simp [Act.eval]; omega)]; simp only [goes_go, if_true, if_false, Bool.false_eq_true, ↓reduceIte]; refine ⟨ds0, ?_⟩)
        | (rw [stepG_cond (t := false) (by simp [Act.eval]; omega)]; simp only [goes_go, if_true, if_false, Bool.false_eq_true, ↓reduceIte]; refine ⟨ds0, ?_⟩)
        | (refine goes_exit rfl ?_; refine ⟨ds0, ?_⟩))
      exact Goes.mono (hT _ hF.1.1 hF.1.2 hF.2) (by omega)
    · refine ⟨_, stepG_cas_miss (v := (v' : Int) * KK) (old := S) (n := S + 1) rfl rfl (by k_ne) rfl H.f_casU64 (x_casU64_n L) (x_casU64_b L) (x_casU64_x L) .u64 (x_casU64_f L) rfl rfl rfl hw.cellSt (hw.thaw 0) (by rw [← hS]; simp only [KK]; omega), 20, ?_⟩
      clear hw
      walk_nrm
      iterate 9 (refine Goes.step rfl (fun _ h₁ => ?_); replace hF := (fe_rely hF2) hF h₁; clear h₁; first
        | (rw [stepG_seq]; simp only [goes_go]; refine ⟨ds0, ?_⟩)
        | (rw [stepG_region_end]; simp only [goes_go]; refine ⟨ds0, ?_⟩)
        | (rw [stepG_skip]; simp only [goes_go]; refine ⟨ds0, ?_⟩)
        | (rw [stepG_ret']; simp only [goes_go]; refine ⟨ds0, ?_⟩)
        | (rw [stepG_block]; simp only [goes_go]; refine ⟨ds0, ?_⟩)
        | (rw [stepG_loop]; simp only [goes_go]; refine ⟨ds0, ?_⟩)
        | (rw [stepG_inBlock]; simp only [goes_go]; refine ⟨ds0, ?_⟩)
        | (rw [stepG_inLoop]; simp only [goes_go]; refine ⟨ds0, ?_⟩)
        | (rw [stepG_end]; simp only [goes_go]; refine ⟨ds0, ?_⟩)
        | (rw [stepG_region]; simp only [goes_go, List.size_toArray, List.length_cons, List.length_nil, Nat.reduceAdd, Nat.zero_add, List.range, List.range.loop]; refine ⟨ds0, ?_⟩)
        | (rw [stepG_cond (t := true) rfl]; simp only [goes_go, if_true, if_false, Bool.false_eq_true, ↓reduceIte]; refine ⟨ds0, ?_⟩)
        | (rw [stepG_cond (t := false) rfl]; simp only [goes_go, if_true, if_false, Bool.false_eq_true, ↓reduceIte]; refine ⟨ds0, ?_⟩)
        | (rw [stepG_unwanted rfl rfl]; simp only [goes_go]; refine ⟨ds0, ?_⟩; walk_nrm)
        | (refine goes_leave1 rfl rfl H.f_uCas rfl ⟨ds0, ?_⟩; walk_nrm)
        | (refine goes_leave0 rfl rfl H.f_uCas rfl ⟨ds0, ?_⟩; walk_nrm)
        | (refine goes_call rfl rfl (by k_ne) rfl H.f_uCas (nm_uCas L) rfl ⟨ds0, ?_⟩; walk_nrmf uCasFn)
        | (refine goes_oper_k rfl rfl (by k_ne) (fun K hK => ?_); go_simp; refine hK _ _ ⟨?_, ?_⟩; (focus (rw [listed_nil (by simp [go_sem, *])]; exact ds0)); clear hK K; try w_num)
        | (rw [stepG_cond (t := true) (by simp [Act.eval]; omega)]; simp only [goes_go, if_true, if_false, Bool.false_eq_true, ↓reduceIte]; refine ⟨ds0, ?_⟩)
        | (rw [stepG_cond (t := false) (by simp [Act.eval]; omega)]; simp only [goes_go, if_true, if_false, Bool.false_eq_true, ↓reduceIte]; refine ⟨ds0, ?_⟩)
        | (refine goes_exit rfl ?_; refine ⟨ds0, ?_⟩))
      refine Goes.stop (fun w₃ h₃ => ?_)
      replace hF := (fe_rely hF2) hF h₃
      exact ⟨_, rfl, by simp, by simp, hF⟩

set_option maxRecDepth 100000 in
/-- Into Wait. -/
theorem waitStart (H : WgLib E.P L) (hF2 : ∀ w w', E.RS w w' → F w → F w') (w : World) (hF : F w ∧ E.live w) :
    Goes E.P true E.RS (E.DS E.n) (E.Sd (anchE L E F (b₀.at a₀ (.inRegion ops₀ (i₀ :: rest₀) :: k₀)) cs)) 3
      (G ((base L.wait).at ⟨#[.pointer (some ⟨E.Wg, 0, none⟩), undef, undef, undef, undef, undef, undef, undef, undef, undef, undef, undef, undef, undef, undef, undef, undef, undef, undef, undef, undef, undef, undef, undef, undef, undef, undef, undef, undef, undef, undef, undef, undef, undef, undef, undef, undef, undef, undef, undef, undef, undef, undef, undef, undef, undef, undef, undef, undef, undef, undef, undef, undef, undef, undef, undef, undef, undef, undef, undef, undef, undef, undef, undef, undef, undef, undef, undef, undef, undef, undef, undef, undef, undef, undef, undef, undef, undef, undef, undef, undef, undef, undef, undef], []⟩ [.code (body_wait L)]) (b₀.at a₀ (.inRegion ops₀ (i₀ :: rest₀) :: k₀) :: cs)) w := by
  lib_facts
  simp only [body_wait, waitFn, Option.getD_some]
  iterate 3 (refine Goes.step rfl (fun _ h₁ => ?_); replace hF := (fe_rely hF2) hF h₁; clear h₁; first
    | (rw [stepG_seq]; simp only [goes_go]; refine ⟨ds0, ?_⟩)
    | (rw [stepG_region_end]; simp only [goes_go]; refine ⟨ds0, ?_⟩)
    | (rw [stepG_skip]; simp only [goes_go]; refine ⟨ds0, ?_⟩)
    | (rw [stepG_ret']; simp only [goes_go]; refine ⟨ds0, ?_⟩)
    | (rw [stepG_block]; simp only [goes_go]; refine ⟨ds0, ?_⟩)
    | (rw [stepG_loop]; simp only [goes_go]; refine ⟨ds0, ?_⟩)
    | (rw [stepG_inBlock]; simp only [goes_go]; refine ⟨ds0, ?_⟩)
    | (rw [stepG_inLoop]; simp only [goes_go]; refine ⟨ds0, ?_⟩)
    | (rw [stepG_end]; simp only [goes_go]; refine ⟨ds0, ?_⟩)
    | (rw [stepG_region]; simp only [goes_go, List.size_toArray, List.length_cons, List.length_nil, Nat.reduceAdd, Nat.zero_add, List.range, List.range.loop]; refine ⟨ds0, ?_⟩)
    | (rw [stepG_cond (t := true) rfl]; simp only [goes_go, if_true, if_false, Bool.false_eq_true, ↓reduceIte]; refine ⟨ds0, ?_⟩)
    | (rw [stepG_cond (t := false) rfl]; simp only [goes_go, if_true, if_false, Bool.false_eq_true, ↓reduceIte]; refine ⟨ds0, ?_⟩)
    | (rw [stepG_unwanted rfl rfl]; simp only [goes_go]; refine ⟨ds0, ?_⟩; walk_nrm)
    | (refine goes_oper_k rfl rfl (by k_ne) (fun K hK => ?_); go_simp; refine hK _ _ ⟨?_, ?_⟩; (focus (rw [listed_nil (by simp [go_sem, *])]; exact ds0)); clear hK K; try w_num)
    | (rw [stepG_cond (t := true) (by simp [Act.eval]; omega)]; simp only [goes_go, if_true, if_false, Bool.false_eq_true, ↓reduceIte]; refine ⟨ds0, ?_⟩)
    | (rw [stepG_cond (t := false) (by simp [Act.eval]; omega)]; simp only [goes_go, if_true, if_false, Bool.false_eq_true, ↓reduceIte]; refine ⟨ds0, ?_⟩)
    | (refine goes_exit rfl ?_; refine ⟨ds0, ?_⟩))
  refine Goes.stop (fun w₁ h₁ => ?_)
  replace hF := (fe_rely hF2) hF h₁
  clear h₁
  refine ⟨rfl, _, stepG_mark0 .disable (by simp) rfl rfl (by k_ne) rfl H.f_disable (x_disable_n L) (x_disable_b L) (x_disable_x L) (x_disable_f L), 3, ?_⟩
  walk_nrm
  iterate 3 (refine Goes.step rfl (fun _ h₁ => ?_); replace hF := (fe_rely hF2) hF h₁; clear h₁; first
    | (rw [stepG_seq]; simp only [goes_go]; refine ⟨ds0, ?_⟩)
    | (rw [stepG_region_end]; simp only [goes_go]; refine ⟨ds0, ?_⟩)
    | (rw [stepG_skip]; simp only [goes_go]; refine ⟨ds0, ?_⟩)
    | (rw [stepG_ret']; simp only [goes_go]; refine ⟨ds0, ?_⟩)
    | (rw [stepG_block]; simp only [goes_go]; refine ⟨ds0, ?_⟩)
    | (rw [stepG_loop]; simp only [goes_go]; refine ⟨ds0, ?_⟩)
    | (rw [stepG_inBlock]; simp only [goes_go]; refine ⟨ds0, ?_⟩)
    | (rw [stepG_inLoop]; simp only [goes_go]; refine ⟨ds0, ?_⟩)
    | (rw [stepG_end]; simp only [goes_go]; refine ⟨ds0, ?_⟩)
    | (rw [stepG_region]; simp only [goes_go, List.size_toArray, List.length_cons, List.length_nil, Nat.reduceAdd, Nat.zero_add, List.range, List.range.loop]; refine ⟨ds0, ?_⟩)
    | (rw [stepG_cond (t := true) rfl]; simp only [goes_go, if_true, if_false, Bool.false_eq_true, ↓reduceIte]; refine ⟨ds0, ?_⟩)
    | (rw [stepG_cond (t := false) rfl]; simp only [goes_go, if_true, if_false, Bool.false_eq_true, ↓reduceIte]; refine ⟨ds0, ?_⟩)
    | (rw [stepG_unwanted rfl rfl]; simp only [goes_go]; refine ⟨ds0, ?_⟩; walk_nrm)
    | (refine goes_oper_k rfl rfl (by k_ne) (fun K hK => ?_); go_simp; refine hK _ _ ⟨?_, ?_⟩; (focus (rw [listed_nil (by simp [go_sem, *])]; exact ds0)); clear hK K; try w_num)
    | (rw [stepG_cond (t := true) (by simp [Act.eval]; omega)]; simp only [goes_go, if_true, if_false, Bool.false_eq_true, ↓reduceIte]; refine ⟨ds0, ?_⟩)
    | (rw [stepG_cond (t := false) (by simp [Act.eval]; omega)]; simp only [goes_go, if_true, if_false, Bool.false_eq_true, ↓reduceIte]; refine ⟨ds0, ?_⟩)
    | (refine goes_exit rfl ?_; refine ⟨ds0, ?_⟩))
  exact Goes.stop (fun w₂ h₂ => ⟨_, rfl, by simp, by simp, (fe_rely hF2) hF h₂⟩)
end
end Go.Proofs.Ytdemidfpoojkdaa.Co
