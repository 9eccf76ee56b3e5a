/- The wait group's Add, Wait and Done in the company of workers that swap a shared word. -/
import Derived.Test.YtdemidfpoojkdaaCoW
import Derived.Conc.WgGenN3
import Derived.Conc.WgWords
namespace Go.Proofs.Ytdemidfpoojkdaa.Co
open Go.Conc Go.ConcN Go.RowKit Go.Conc.Lib Go.ConcR.Gen Go.ConcN.Gen
open Go.ConcR (KK wgBlock WgAt stA smA rd wr mk DC0)
set_option linter.unusedVariables false
set_option linter.unusedSimpArgs false
variable {L : WgLink} {E : Env}


section
variable {j : Nat} {Next : Goroutine → World → Prop} {F : World → Prop} {b₀ : Frame} {a₀ : Act} {ops₀ : Array Oper} {i₀ : Nat} {rest₀ : List Nat} {k₀ : List Item} {cs : List Frame} {mT : Nat}

set_option maxRecDepth 100000 in
set_option maxHeartbeats 8000000 in
/-- Add(1), in company. -/
theorem addPos (H : WgLib E.P L) (HG : E.geo) (hF2 : ∀ w w', E.RS w w' → F w → F w')
    (hT : ∀ w, F w → E.live w → Goes E.P true E.RS (E.DS j) (E.Sgo j Next) mT (G (b₀.at (a₀.put ((ops₀[i₀]?).bind (·.dst)) (.tuple #[])) (.inRegion ops₀ rest₀ :: k₀)) cs) w)
    (w : World) (hF : F w ∧ E.live w) :
    Goes E.P true E.RS (E.DS j) (E.Sdi j Next) 60
      (G ((base L.add).at ⟨#[.pointer (some ⟨E.Wg, 0, none⟩), .int .i64 1, undef, undef, undef, undef, undef, undef, undef, undef, undef, undef, undef, undef, undef, undef, undef, undef, undef, undef, undef, undef, undef, undef, undef, undef, undef, undef, undef, undef, undef, undef, undef, undef, undef, undef, undef, undef, undef, undef, undef, undef, undef, undef, undef, undef, undef, undef, undef, undef, undef, undef, undef, undef, undef, undef, undef, undef, undef, undef, undef, undef, undef, undef, undef, undef, undef, undef, undef, undef, undef, undef, undef, undef, undef, undef, undef, undef, undef, undef, undef, undef, undef, undef, undef, undef, undef, undef, undef, undef, undef, undef, undef, undef, undef, undef, undef, undef, undef, undef, undef, undef, undef, undef, undef, undef, undef, undef, undef, undef, undef, undef, undef, undef, undef, undef, undef], []⟩ [.code (body_add L)]) (b₀.at a₀ (.inRegion ops₀ (i₀ :: rest₀) :: k₀) :: cs)) w := by
  lib_facts
  simp only [body_add, addFn, Option.getD_some]
  iterate 12 (refine Goes.step rfl (fun _ h₁ => ?_); replace hF := (fe_rely hF2) hF h₁; clear h₁; first
    | (rw [stepG_seq]; simp only [goes_go]; refine ⟨ds0, ?_⟩)
    | (rw [stepG_region_end]; simp only [goes_go]; refine ⟨ds0, ?_⟩)
    | (rw [stepG_skip]; simp only [goes_go]; refine ⟨ds0, ?_⟩)
    | (rw [stepG_ret']; simp only [goes_go]; refine ⟨ds0, ?_⟩)
    | (rw [stepG_block]; simp only [goes_go]; refine ⟨ds0, ?_⟩)
    | (rw [stepG_loop]; simp only [goes_go]; refine ⟨ds0, ?_⟩)
    | (rw [stepG_inBlock]; simp only [goes_go]; refine ⟨ds0, ?_⟩)
    | (rw [stepG_inLoop]; simp only [goes_go]; refine ⟨ds0, ?_⟩)
    | (rw [stepG_end]; simp only [goes_go]; refine ⟨ds0, ?_⟩)
    | (rw [stepG_region]; simp only [goes_go, List.size_toArray, List.length_cons, List.length_nil, Nat.reduceAdd, Nat.zero_add, List.range, List.range.loop]; refine ⟨ds0, ?_⟩)
    | (rw [stepG_cond (t := true) rfl]; simp only [goes_go, if_true, if_false, Bool.false_eq_true, ↓reduceIte]; refine ⟨ds0, ?_⟩)
    | (rw [stepG_cond (t := false) rfl]; simp only [goes_go, if_true, if_false, Bool.false_eq_true, ↓reduceIte]; refine ⟨ds0, ?_⟩)
    | (rw [stepG_unwanted rfl rfl]; simp only [goes_go]; refine ⟨ds0, ?_⟩; walk_nrm)
    | (refine goes_oper_k rfl rfl (by k_ne) (fun K hK => ?_); go_simp; refine hK _ _ ⟨?_, ?_⟩; (focus (rw [listed_nil (by simp [go_sem, *])]; exact ds0)); clear hK K; try w_num)
    | (rw [stepG_cond (t := true) (by simp [Act.eval]; omega)]; simp only [goes_go, if_true, if_false, Bool.false_eq_true, ↓reduceIte]; refine ⟨ds0, ?_⟩)
    | (rw [stepG_cond (t := false) (by simp [Act.eval]; omega)]; simp only [goes_go, if_true, if_false, Bool.false_eq_true, ↓reduceIte]; refine ⟨ds0, ?_⟩)
    | (refine goes_exit rfl ?_; refine ⟨ds0, ?_⟩))
  refine Goes.stop (fun w₁ h₁ => ?_)
  replace hF := (fe_rely hF2) hF h₁
  clear h₁
  refine ⟨rfl, _, stepG_mark0 .disable (by simp) rfl rfl (by k_ne) rfl H.f_disable (x_disable_n L) (x_disable_b L) (x_disable_x L) (x_disable_f L), 60, ?_⟩
  walk_nrm
  iterate 34 (refine Goes.step rfl (fun _ h₁ => ?_); replace hF := (fe_rely hF2) hF h₁; clear h₁; first
    | (rw [stepG_seq]; simp only [goes_go]; refine ⟨ds0, ?_⟩)
    | (rw [stepG_region_end]; simp only [goes_go]; refine ⟨ds0, ?_⟩)
    | (rw [stepG_skip]; simp only [goes_go]; refine ⟨ds0, ?_⟩)
    | (rw [stepG_ret']; simp only [goes_go]; refine ⟨ds0, ?_⟩)
    | (rw [stepG_block]; simp only [goes_go]; refine ⟨ds0, ?_⟩)
    | (rw [stepG_loop]; simp only [goes_go]; refine ⟨ds0, ?_⟩)
    | (rw [stepG_inBlock]; simp only [goes_go]; refine ⟨ds0, ?_⟩)
    | (rw [stepG_inLoop]; simp only [goes_go]; refine ⟨ds0, ?_⟩)
    | (rw [stepG_end]; simp only [goes_go]; refine ⟨ds0, ?_⟩)
    | (rw [stepG_region]; simp only [goes_go, List.size_toArray, List.length_cons, List.length_nil, Nat.reduceAdd, Nat.zero_add, List.range, List.range.loop]; refine ⟨ds0, ?_⟩)
    | (rw [stepG_cond (t := true) rfl]; simp only [goes_go, if_true, if_false, Bool.false_eq_true, ↓reduceIte]; refine ⟨ds0, ?_⟩)
    | (rw [stepG_cond (t := false) rfl]; simp only [goes_go, if_true, if_false, Bool.false_eq_true, ↓reduceIte]; refine ⟨ds0, ?_⟩)
    | (rw [stepG_unwanted rfl rfl]; simp only [goes_go]; refine ⟨ds0, ?_⟩; walk_nrm)
    | (refine goes_leave1 rfl rfl H.f_uAdd rfl ⟨ds0, ?_⟩; walk_nrm)
    | (refine goes_leave0 rfl rfl H.f_uAdd rfl ⟨ds0, ?_⟩; walk_nrm)
    | (refine goes_call rfl rfl (by k_ne) rfl H.f_uAdd (nm_uAdd L) rfl ⟨ds0, ?_⟩; walk_nrmf uAddFn)
    | (rw [stepG_defer rfl rfl (by k_ne) rfl]; simp only [goes_go]; refine ⟨ds0, ?_⟩; walk_nrm)
    | (rw [stepG_entry_pure (.bool false) rfl rfl (by k_ne) rfl H.f_inBubble (x_inBubble_n L) (x_inBubble_b L) (x_inBubble_x L) (x_inBubble_f L)]; simp only [goes_go]; refine ⟨ds0, ?_⟩; walk_nrm)
    | (refine goes_oper_k rfl rfl (by k_ne) (fun K hK => ?_); go_simp; refine hK _ _ ⟨?_, ?_⟩; (focus (rw [listed_nil (by simp [go_sem, *])]; exact ds0)); clear hK K; try w_num)
    | (rw [stepG_cond (t := true) (by simp [Act.eval]; omega)]; simp only [goes_go, if_true, if_false, Bool.false_eq_true, ↓reduceIte]; refine ⟨ds0, ?_⟩)
    | (rw [stepG_cond (t := false) (by simp [Act.eval]; omega)]; simp only [goes_go, if_true, if_false, Bool.false_eq_true, ↓reduceIte]; refine ⟨ds0, ?_⟩)
    | (refine goes_exit rfl ?_; refine ⟨ds0, ?_⟩))
  refine Goes.stop (fun w₂ h₁ => ?_)
  replace hF := (fe_rely hF2) hF h₁
  clear h₁
  refine ⟨rfl, fun v hv hw => ?_⟩
  rcases Nat.eq_zero_or_pos v with rfl | hvp
  · replace hw : WgAt E.ty E.Wg w₂ 0 0 := by simpa using hw
    have z : (((0 : Nat) : Int) + 1) * KK = KK := by simp
    rw [z]
    have e0 : IntKind.u64.wrap (0 + 4294967296) = KK := by decide
    refine ⟨_, (stepG_add_atomic rfl rfl (by k_ne) rfl H.f_addU64 (x_addU64_n L) (x_addU64_b L) (x_addU64_x L) .u64 (x_addU64_f L) rfl rfl hw.cellSt (hw.thaw 0)).trans (by rw [e0]; rfl), 200, ?_⟩
    replace hF : F (w₂.setCell (stA E.Wg) (.int .u64 KK)) ∧ E.live (w₂.setCell (stA E.Wg) (.int .u64 KK)) := ⟨hF2 _ _ (rs_set HG hF.2 hw _) hF.1, live_set HG hF.2 hw _⟩
    clear hw
    simp only [KK] at hF ⊢
    walk_nrm
    iterate 52 (refine Goes.step rfl (fun _ h₁ => ?_); replace hF := (fe_rely hF2) hF h₁; clear h₁; first
      | (rw [stepG_seq]; simp only [goes_go]; refine ⟨ds0, ?_⟩)
      | (rw [stepG_region_end]; simp only [goes_go]; refine ⟨ds0, ?_⟩)
      | (rw [stepG_skip]; simp only [goes_go]; refine ⟨ds0, ?_⟩)
      | (rw [stepG_ret']; simp only [goes_go]; refine ⟨ds0, ?_⟩)
      | (rw [stepG_block]; simp only [goes_go]; refine ⟨ds0, ?_⟩)
      | (rw [stepG_loop]; simp only [goes_go]; refine ⟨ds0, ?_⟩)
      | (rw [stepG_inBlock]; simp only [goes_go]; refine ⟨ds0, ?_⟩)
      | (rw [stepG_inLoop]; simp only [goes_go]; refine ⟨ds0, ?_⟩)
      | (rw [stepG_end]; simp only [goes_go]; refine ⟨ds0, ?_⟩)
      | (rw [stepG_region]; simp only [goes_go, List.size_toArray, List.length_cons, List.length_nil, Nat.reduceAdd, Nat.zero_add, List.range, List.range.loop]; refine ⟨ds0, ?_⟩)
      | (rw [stepG_cond (t := true) rfl]; simp only [goes_go, if_true, if_false, Bool.false_eq_true, ↓reduceIte]; refine ⟨ds0, ?_⟩)
      | (rw [stepG_cond (t := false) rfl]; simp only [goes_go, if_true, if_false, Bool.false_eq_true, ↓reduceIte]; refine ⟨ds0, ?_⟩)
      | (rw [stepG_unwanted rfl rfl]; simp only [goes_go]; refine ⟨ds0, ?_⟩; walk_nrm)
      | (refine goes_leave1 rfl rfl H.f_uAdd rfl ⟨ds0, ?_⟩; walk_nrm)
      | (refine goes_leave0 rfl rfl H.f_uAdd rfl ⟨ds0, ?_⟩; walk_nrm)
      | (refine goes_call rfl rfl (by k_ne) rfl H.f_uAdd (nm_uAdd L) rfl ⟨ds0, ?_⟩; walk_nrmf uAddFn)
      | (refine goes_oper_k rfl rfl (by k_ne) (fun K hK => ?_); go_simp; refine hK _ _ ⟨?_, ?_⟩; (focus (rw [listed_nil (by simp [go_sem, *])]; exact ds0)); clear hK K; try w_num)
      | (rw [stepG_cond (t := true) (by simp [Act.eval]; omega)]; simp only [goes_go, if_true, if_false, Bool.false_eq_true, ↓reduceIte]; refine ⟨ds0, ?_⟩)
      | (rw [stepG_cond (t := false) (by simp [Act.eval]; omega)]; simp only [goes_go, if_true, if_false, Bool.false_eq_true, ↓reduceIte]; refine ⟨ds0, ?_⟩)
      | (refine goes_exit rfl ?_; refine ⟨ds0, ?_⟩))
    refine Goes.step rfl (fun _ h₁ => ?_); replace hF := (fe_rely hF2) hF h₁; clear h₁
    refine goes_oper_k rfl rfl (by k_ne) (fun K hK => ?_)
    have hcv := run_convert_to_unsafe (P := E.P) H.underlying_tPU32 H.underlying_tUP H.room_tU32 (live1 hF.2).choose_spec
    have hce := fun es => events_convert_to_unsafe (P := E.P) H.underlying_tPU32 H.underlying_tUP H.room_tU32 (live1 hF.2).choose_spec es
    go_simp
    refine hK _ _ ⟨?_, ?_⟩
    focus (rw [listed_nil (by simp [go_sem, hce])]; exact ds0)
    clear hK K hcv hce

    refine Goes.step rfl (fun _ h₁ => ?_); replace hF := (fe_rely hF2) hF h₁; clear h₁
    rw [stepG_markAt .read (by simp) rfl rfl (by k_ne) rfl H.f_raceRead (x_raceRead_n L) (x_raceRead_b L) (x_raceRead_x L) (x_raceRead_f L) (ad := ⟨E.Wg, 1, none⟩) (by simp [Act.eval])]
    simp only [goes_go]
    refine ⟨⟨fun _ _ => rfl, fun e he => ?_⟩, ?_⟩
    focus (rw [Array.mem_singleton] at he; subst he; exact said_read _ rfl)
    walk_nrm
    iterate 39 (refine Goes.step rfl (fun _ h₁ => ?_); replace hF := (fe_rely hF2) hF h₁; clear h₁; first
      | (rw [stepG_seq]; simp only [goes_go]; refine ⟨ds0, ?_⟩)
      | (rw [stepG_region_end]; simp only [goes_go]; refine ⟨ds0, ?_⟩)
      | (rw [stepG_skip]; simp only [goes_go]; refine ⟨ds0, ?_⟩)
      | (rw [stepG_ret']; simp only [goes_go]; refine ⟨ds0, ?_⟩)
      | (rw [stepG_block]; simp only [goes_go]; refine ⟨ds0, ?_⟩)
      | (rw [stepG_loop]; simp only [goes_go]; refine ⟨ds0, ?_⟩)
      | (rw [stepG_inBlock]; simp only [goes_go]; refine ⟨ds0, ?_⟩)
      | (rw [stepG_inLoop]; simp only [goes_go]; refine ⟨ds0, ?_⟩)
      | (rw [stepG_end]; simp only [goes_go]; refine ⟨ds0, ?_⟩)
      | (rw [stepG_region]; simp only [goes_go, List.size_toArray, List.length_cons, List.length_nil, Nat.reduceAdd, Nat.zero_add, List.range, List.range.loop]; refine ⟨ds0, ?_⟩)
      | (rw [stepG_cond (t := true) rfl]; simp only [goes_go, if_true, if_false, Bool.false_eq_true, ↓reduceIte]; refine ⟨ds0, ?_⟩)
      | (rw [stepG_cond (t := false) rfl]; simp only [goes_go, if_true, if_false, Bool.false_eq_true, ↓reduceIte]; refine ⟨ds0, ?_⟩)
      | (rw [stepG_unwanted rfl rfl]; simp only [goes_go]; refine ⟨ds0, ?_⟩; walk_nrm)
      | (refine goes_oper_k rfl rfl (by k_ne) (fun K hK => ?_); go_simp; refine hK _ _ ⟨?_, ?_⟩; (focus (rw [listed_nil (by simp [go_sem, *])]; exact ds0)); clear hK K; try w_num)
      | (rw [stepG_cond (t := true) (by simp [Act.eval]; omega)]; simp only [goes_go, if_true, if_false, Bool.false_eq_true, ↓reduceIte]; refine ⟨ds0, ?_⟩)
      | (rw [stepG_cond (t := false) (by simp [Act.eval]; omega)]; simp only [goes_go, if_true, if_false, Bool.false_eq_true, ↓reduceIte]; refine ⟨ds0, ?_⟩)
      | (refine goes_exit rfl ?_; refine ⟨ds0, ?_⟩))
    refine Goes.stop (fun w₃ h₁ => ?_)
    replace hF := (fe_rely hF2) hF h₁
    clear h₁
    refine ⟨rfl, _, stepG_unwind_entry (v := .tuple #[]) (evs := #[mk .enable]) rfl H.f_enable (x_enable_n L) (x_enable_b L) (x_enable_x L) (x_enable_f L) (by simp [Extern.Race.none_]) (by simp [mk]) (by simp [mk]), mT + 9, ?_⟩
    iterate 1 (refine Goes.step rfl (fun _ h₁ => ?_); replace hF := (fe_rely hF2) hF h₁; clear h₁; first
      | (rw [stepG_seq]; simp only [goes_go]; refine ⟨ds0, ?_⟩)
      | (rw [stepG_region_end]; simp only [goes_go]; refine ⟨ds0, ?_⟩)
      | (rw [stepG_skip]; simp only [goes_go]; refine ⟨ds0, ?_⟩)
      | (rw [stepG_ret']; simp only [goes_go]; refine ⟨ds0, ?_⟩)
      | (rw [stepG_block]; simp only [goes_go]; refine ⟨ds0, ?_⟩)
      | (rw [stepG_loop]; simp only [goes_go]; refine ⟨ds0, ?_⟩)
      | (rw [stepG_inBlock]; simp only [goes_go]; refine ⟨ds0, ?_⟩)
      | (rw [stepG_inLoop]; simp only [goes_go]; refine ⟨ds0, ?_⟩)
      | (rw [stepG_end]; simp only [goes_go]; refine ⟨ds0, ?_⟩)
      | (rw [stepG_region]; simp only [goes_go, List.size_toArray, List.length_cons, List.length_nil, Nat.reduceAdd, Nat.zero_add, List.range, List.range.loop]; refine ⟨ds0, ?_⟩)
      | (rw [stepG_cond (t := true) rfl]; simp only [goes_go, if_true, if_false, Bool.false_eq_true, ↓reduceIte]; refine ⟨ds0, ?_⟩)
      | (rw [stepG_cond (t := false) rfl]; simp only [goes_go, if_true, if_false, Bool.false_eq_true, ↓reduceIte]; refine ⟨ds0, ?_⟩)
      | (rw [stepG_unwanted rfl rfl]; simp only [goes_go]; refine ⟨ds0, ?_⟩; walk_nrm)
      | (refine goes_leave1 rfl rfl H.f_add rfl ⟨ds0, ?_⟩; walk_nrm)
      | (refine goes_leave0 rfl rfl H.f_add rfl ⟨ds0, ?_⟩; walk_nrm)
      | (refine goes_call rfl rfl (by k_ne) rfl H.f_add (nm_add L) rfl ⟨ds0, ?_⟩; walk_nrmf addFn)
      | (refine goes_oper_k rfl rfl (by k_ne) (fun K hK => ?_); go_simp; refine hK _ _ ⟨?_, ?_⟩; (focus (rw [listed_nil (by simp [go_sem, *])]; exact ds0)); clear hK K; try w_num)
      | (rw [stepG_cond (t := true) (by simp [Act.eval]; omega)]; simp only [goes_go, if_true, if_false, Bool.false_eq_true, ↓reduceIte]; refine ⟨ds0, ?_⟩)
      | (rw [stepG_cond (t := false) (by simp [Act.eval]; omega)]; simp only [goes_go, if_true, if_false, Bool.false_eq_true, ↓reduceIte]; refine ⟨ds0, ?_⟩)
      | (refine goes_exit rfl ?_; refine ⟨ds0, ?_⟩))
    exact Goes.mono (hT _ hF.1 hF.2) (by omega)
  · obtain ⟨V, hV⟩ : ∃ V : Int, V = (v : Int) + 1 := ⟨_, rfl⟩
    obtain ⟨S, hS⟩ : ∃ S : Int, S = V * KK := ⟨_, rfl⟩
    have eS : IntKind.u64.wrap ((v : Int) * KK + 4294967296) = S := by rw [IntKind.wrap_u64, hS, hV]; simp only [KK]; omega
    rw [← hV, ← hS]
    have a1 : S / 4294967296 = V := by rw [hS]; simp only [KK]; omega
    have b1 : bits .and .u64 S 2147483648 = 0 := by rw [hS, hV]; have := st_flag (v + 1) 0 (by omega) (by omega); simpa [KK] using this
    have b2 : bits .and .u64 S 2147483647 = 0 := by rw [hS, hV]; have := st_waiters (v + 1) 0 (by omega) (by omega); simpa [KK] using this
    have c1 : IntKind.i32.wrap V = V := by rw [IntKind.wrap_i32]; omega
    have hV1 : 1 < V := by omega
    have hV2 : V < 2147483648 := by omega
    have q1 : (V == 1) = false := by simp; omega
    have q2 : decide (V = 1) = false := decide_eq_false (by omega)
    have q3 : decide (V < 0) = false := decide_eq_false (by omega)
    have q4 : decide (0 < V) = true := decide_eq_true (by omega)
    have q5 : (V == 0) = false := by simp; omega
    have q6 : decide (V = 0) = false := decide_eq_false (by omega)
    refine ⟨_, (stepG_add_atomic rfl rfl (by k_ne) rfl H.f_addU64 (x_addU64_n L) (x_addU64_b L) (x_addU64_x L) .u64 (x_addU64_f L) rfl rfl hw.cellSt (hw.thaw 0)).trans (by rw [eS]; rfl), 200, ?_⟩
    replace hF : F (w₂.setCell (stA E.Wg) (.int .u64 S)) ∧ E.live (w₂.setCell (stA E.Wg) (.int .u64 S)) := ⟨hF2 _ _ (rs_set HG hF.2 hw _) hF.1, live_set HG hF.2 hw _⟩
    clear hw
    clear hS hV eS
    walk_nrm
    iterate 87 (refine Goes.step rfl (fun _ h₁ => ?_); replace hF := (fe_rely hF2) hF h₁; clear h₁; first
      | (rw [stepG_seq]; simp only [goes_go]; refine ⟨ds0, ?_⟩)
      | (rw [stepG_region_end]; simp only [goes_go]; refine ⟨ds0, ?_⟩)
      | (rw [stepG_skip]; simp only [goes_go]; refine ⟨ds0, ?_⟩)
      | (rw [stepG_ret']; simp only [goes_go]; refine ⟨ds0, ?_⟩)
      | (rw [stepG_block]; simp only [goes_go]; refine ⟨ds0, ?_⟩)
      | (rw [stepG_loop]; simp only [goes_go]; refine ⟨ds0, ?_⟩)
      | (rw [stepG_inBlock]; simp only [goes_go]; refine ⟨ds0, ?_⟩)
      | (rw [stepG_inLoop]; simp only [goes_go]; refine ⟨ds0, ?_⟩)
      | (rw [stepG_end]; simp only [goes_go]; refine ⟨ds0, ?_⟩)
      | (rw [stepG_region]; simp only [goes_go, List.size_toArray, List.length_cons, List.length_nil, Nat.reduceAdd, Nat.zero_add, List.range, List.range.loop]; refine ⟨ds0, ?_⟩)
      | (rw [stepG_cond (t := true) rfl]; simp only [goes_go, if_true, if_false, Bool.false_eq_true, ↓reduceIte]; refine ⟨ds0, ?_⟩)
      | (rw [stepG_cond (t := false) rfl]; simp only [goes_go, if_true, if_false, Bool.false_eq_true, ↓reduceIte]; refine ⟨ds0, ?_⟩)
      | (rw [stepG_unwanted rfl rfl]; simp only [goes_go]; refine ⟨ds0, ?_⟩; walk_nrm)
      | (refine goes_leave1 rfl rfl H.f_uAdd rfl ⟨ds0, ?_⟩; walk_nrm)
      | (refine goes_leave0 rfl rfl H.f_uAdd rfl ⟨ds0, ?_⟩; walk_nrm)
      | (refine goes_call rfl rfl (by k_ne) rfl H.f_uAdd (nm_uAdd L) rfl ⟨ds0, ?_⟩; walk_nrmf uAddFn)
      | (refine goes_oper_k rfl rfl (by k_ne) (fun K hK => ?_); go_simp; refine hK _ _ ⟨?_, ?_⟩; (focus (rw [listed_nil (by simp [go_sem, *])]; exact ds0)); clear hK K; try w_num)
      | (rw [stepG_cond (t := true) (by simp [Act.eval]; omega)]; simp only [goes_go, if_true, if_false, Bool.false_eq_true, ↓reduceIte]; refine ⟨ds0, ?_⟩)
      | (rw [stepG_cond (t := false) (by simp [Act.eval]; omega)]; simp only [goes_go, if_true, if_false, Bool.false_eq_true, ↓reduceIte]; refine ⟨ds0, ?_⟩)
      | (refine goes_exit rfl ?_; refine ⟨ds0, ?_⟩))
    refine Goes.stop (fun w₃ h₁ => ?_)
    replace hF := (fe_rely hF2) hF h₁
    clear h₁
    refine ⟨rfl, _, stepG_unwind_entry (v := .tuple #[]) (evs := #[mk .enable]) rfl H.f_enable (x_enable_n L) (x_enable_b L) (x_enable_x L) (x_enable_f L) (by simp [Extern.Race.none_]) (by simp [mk]) (by simp [mk]), mT + 9, ?_⟩
    iterate 1 (refine Goes.step rfl (fun _ h₁ => ?_); replace hF := (fe_rely hF2) hF h₁; clear h₁; first
      | (rw [stepG_seq]; simp only [goes_go]; refine ⟨ds0, ?_⟩)
      | (rw [stepG_region_end]; simp only [goes_go]; refine ⟨ds0, ?_⟩)
      | (rw [stepG_skip]; simp only [goes_go]; refine ⟨ds0, ?_⟩)
      | (rw [stepG_ret']; simp only [goes_go]; refine ⟨ds0, ?_⟩)
      | (rw [stepG_block]; simp only [goes_go]; refine ⟨ds0, ?_⟩)
      | (rw [stepG_loop]; simp only [goes_go]; refine ⟨ds0, ?_⟩)
      | (rw [stepG_inBlock]; simp only [goes_go]; refine ⟨ds0, ?_⟩)
      | (rw [stepG_inLoop]; simp only [goes_go]; refine ⟨ds0, ?_⟩)
      | (rw [stepG_end]; simp only [goes_go]; refine ⟨ds0, ?_⟩)
      | (rw [stepG_region]; simp only [goes_go, List.size_toArray, List.length_cons, List.length_nil, Nat.reduceAdd, Nat.zero_add, List.range, List.range.loop]; refine ⟨ds0, ?_⟩)
      | (rw [stepG_cond (t := true) rfl]; simp only [goes_go, if_true, if_false, Bool.false_eq_true, ↓reduceIte]; refine ⟨ds0, ?_⟩)
      | (rw [stepG_cond (t := false) rfl]; simp only [goes_go, if_true, if_false, Bool.false_eq_true, ↓reduceIte]; refine ⟨ds0, ?_⟩)
      | (rw [stepG_unwanted rfl rfl]; simp only [goes_go]; refine ⟨ds0, ?_⟩; walk_nrm)
      | (refine goes_leave1 rfl rfl H.f_add rfl ⟨ds0, ?_⟩; walk_nrm)
      | (refine goes_leave0 rfl rfl H.f_add rfl ⟨ds0, ?_⟩; walk_nrm)
      | (refine goes_call rfl rfl (by k_ne) rfl H.f_add (nm_add L) rfl ⟨ds0, ?_⟩; walk_nrmf addFn)
      | (refine goes_oper_k rfl rfl (by k_ne) (fun K hK => ?_); go_simp; refine hK _ _ ⟨?_, ?_⟩; (focus (rw [listed_nil (by simp [go_sem, *])]; exact ds0)); clear hK K; try w_num)
      | (rw [stepG_cond (t := true) (by simp [Act.eval]; omega)]; simp only [goes_go, if_true, if_false, Bool.false_eq_true, ↓reduceIte]; refine ⟨ds0, ?_⟩)
      | (rw [stepG_cond (t := false) (by simp [Act.eval]; omega)]; simp only [goes_go, if_true, if_false, Bool.false_eq_true, ↓reduceIte]; refine ⟨ds0, ?_⟩)
      | (refine goes_exit rfl ?_; refine ⟨ds0, ?_⟩))
    exact Goes.mono (hT _ hF.1 hF.2) (by omega)
end
end Go.Proofs.Ytdemidfpoojkdaa.Co
