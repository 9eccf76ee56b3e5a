/- The wait group's Add, Wait and Done in the company of workers that swap a shared word. -/
import Derived.Test.YtdemidfpoojkdaaCoW
import Derived.Conc.WgGenN3
import Derived.Conc.WgWords
namespace Go.Proofs.Ytdemidfpoojkdaa.Co
open Go.Conc Go.ConcN Go.RowKit Go.Conc.Lib Go.ConcR.Gen Go.ConcN.Gen
open Go.ConcR (KK wgBlock WgAt stA smA rd wr mk DC0)
set_option linter.unusedVariables false
set_option linter.unusedSimpArgs false
variable {L : WgLink} {E : Env}


section
variable {k : Nat} {b₀ : Frame} {a₀ : Act} {ops₀ : Array Oper} {i₀ : Nat} {rest₀ : List Nat} {k₀ : List Item} {cs : List Frame} {qt : Nat}

set_option maxRecDepth 100000 in
set_option maxHeartbeats 8000000 in
/-- Add(-1), of a worker. -/
theorem addNeg (H : WgLib E.P L) (HG : E.geo)
    (hT : QuitsD E.P qt 0 (G (b₀.at (a₀.put ((ops₀[i₀]?).bind (·.dst)) (.tuple #[])) (.inRegion ops₀ rest₀ :: k₀)) cs)) (w : World) (hF : E.live w) :
    Goes E.P false (E.RK (E.Lw k)) (E.DK k) (E.Kr k) 20
      (G ((base L.add).at ⟨#[.pointer (some ⟨E.Wg, 0, none⟩), .int .i64 (-1), undef, undef, undef, undef, undef, undef, undef, undef, undef, undef, undef, undef, undef, undef, undef, undef, undef, undef, undef, undef, undef, undef, undef, undef, undef, undef, undef, undef, undef, undef, undef, undef, undef, undef, undef, undef, undef, undef, undef, undef, undef, undef, undef, undef, undef, undef, undef, undef, undef, undef, undef, undef, undef, undef, undef, undef, undef, undef, undef, undef, undef, undef, undef, undef, undef, undef, undef, undef, undef, undef, undef, undef, undef, undef, undef, undef, undef, undef, undef, undef, undef, undef, undef, undef, undef, undef, undef, undef, undef, undef, undef, undef, undef, undef, undef, undef, undef, undef, undef, undef, undef, undef, undef, undef, undef, undef, undef, undef, undef, undef, undef, undef, undef, undef, undef], []⟩ [.code (body_add L)]) (b₀.at a₀ (.inRegion ops₀ (i₀ :: rest₀) :: k₀) :: cs)) w := by
  lib_facts
  simp only [body_add, addFn, Option.getD_some]
  refine Goes.step rfl (fun _ h₁ => ?_); replace hF := lk_rely hF h₁; clear h₁; (rw [stepG_seq]; simp only [goes_go]; refine ⟨dk0, ?_⟩)
  refine Goes.step rfl (fun _ h₁ => ?_); replace hF := lk_rely hF h₁; clear h₁; (rw [stepG_cond (t := true) rfl]; simp only [goes_go, if_true, if_false, Bool.false_eq_true, ↓reduceIte]; refine ⟨dk0, ?_⟩)
  refine Goes.step rfl (fun _ h₁ => ?_); replace hF := lk_rely hF h₁; clear h₁; (rw [stepG_seq]; simp only [goes_go]; refine ⟨dk0, ?_⟩)
  refine Goes.step rfl (fun _ h₁ => ?_); replace hF := lk_rely hF h₁; clear h₁; (rw [stepG_seq]; simp only [goes_go]; refine ⟨dk0, ?_⟩)
  refine Goes.step rfl (fun _ h₁ => ?_); replace hF := lk_rely hF h₁; clear h₁; (rw [stepG_region]; simp only [goes_go, List.size_toArray, List.length_cons, List.length_nil, Nat.reduceAdd, Nat.zero_add, List.range, List.range.loop]; refine ⟨dk0, ?_⟩)
  refine Goes.step rfl (fun _ h₁ => ?_); replace hF := lk_rely hF h₁; clear h₁; (refine goes_oper_k rfl rfl (by k_ne) (fun K hK => ?_); go_simp; refine hK _ _ ⟨?_, ?_⟩; (focus (rw [listed_nil (by simp [go_sem, *])]; exact dk0)); clear hK K; try w_num)
  refine Goes.step rfl (fun _ h₁ => ?_); replace hF := lk_rely hF h₁; clear h₁; (refine goes_oper_k rfl rfl (by k_ne) (fun K hK => ?_); go_simp; refine hK _ _ ⟨?_, ?_⟩; (focus (rw [listed_nil (by simp [go_sem, *])]; exact dk0)); clear hK K; try w_num)
  refine Goes.step rfl (fun _ h₁ => ?_); replace hF := lk_rely hF h₁; clear h₁; (rw [stepG_region_end]; simp only [goes_go]; refine ⟨dk0, ?_⟩)
  refine Goes.step rfl (fun _ h₁ => ?_); replace hF := lk_rely hF h₁; clear h₁; (rw [stepG_cond (t := true) rfl]; simp only [goes_go, if_true, if_false, Bool.false_eq_true, ↓reduceIte]; refine ⟨dk0, ?_⟩)
  refine Goes.step rfl (fun _ h₁ => ?_); replace hF := lk_rely hF h₁; clear h₁; (rw [stepG_region]; simp only [goes_go, List.size_toArray, List.length_cons, List.length_nil, Nat.reduceAdd, Nat.zero_add, List.range, List.range.loop]; refine ⟨dk0, ?_⟩)
  refine Goes.step rfl (fun _ h₁ => ?_); replace hF := lk_rely hF h₁; clear h₁; (refine goes_oper_k rfl rfl (by k_ne) (fun K hK => ?_); go_simp; refine hK _ _ ⟨?_, ?_⟩; (focus (rw [listed_nil (by simp [go_sem, *])]; exact dk0)); clear hK K; try w_num)
  refine Goes.step rfl (fun _ h₁ => ?_); replace hF := lk_rely hF h₁; clear h₁
  refine goes_oper_k rfl rfl (by k_ne) (fun K hK => ?_)
  have hcv := run_convert_to_unsafe (P := E.P) H.underlying_tWgP H.underlying_tUP H.room_tWg (live0 hF).choose_spec
  have hce := fun es => events_convert_to_unsafe (P := E.P) H.underlying_tWgP H.underlying_tUP H.room_tWg (live0 hF).choose_spec es
  go_simp
  refine hK _ _ ⟨?_, ?_⟩
  focus (rw [listed_nil (by simp [go_sem, hce])]; exact dk0)
  clear hK K hcv hce
  refine Goes.stop (fun w₁ h₁ => ?_)
  replace hF := lk_rely hF h₁
  clear h₁
  refine ⟨rfl, _, stepG_markAt .releaseMerge (by simp) rfl rfl (by k_ne) rfl H.f_relMerge (x_relMerge_n L) (x_relMerge_b L) (x_relMerge_x L) (x_relMerge_f L) (by simp [Act.eval, stA]), 10, ?_⟩
  walk_nrm
  refine Goes.step rfl (fun _ h₁ => ?_); replace hF := lk_rely hF h₁; clear h₁; (rw [stepG_region_end]; simp only [goes_go]; refine ⟨dc0, ?_⟩)
  refine Goes.step rfl (fun _ h₁ => ?_); replace hF := lk_rely hF h₁; clear h₁; (rw [stepG_seq]; simp only [goes_go]; refine ⟨dc0, ?_⟩)
  refine Goes.step rfl (fun _ h₁ => ?_); replace hF := lk_rely hF h₁; clear h₁; (rw [stepG_region]; simp only [goes_go, List.size_toArray, List.length_cons, List.length_nil, Nat.reduceAdd, Nat.zero_add, List.range, List.range.loop]; refine ⟨dc0, ?_⟩)
  refine Goes.stop (fun w₁ h₁ => ?_)
  replace hF := lk_rely hF h₁
  clear h₁
  refine ⟨rfl, _, stepG_mark0 .disable (by simp) rfl rfl (by k_ne) rfl H.f_disable (x_disable_n L) (x_disable_b L) (x_disable_x L) (x_disable_f L), 50, ?_⟩
  walk_nrm
  refine Goes.step rfl (fun _ h₁ => ?_); replace hF := lk_rely hF h₁; clear h₁; (rw [stepG_region_end]; simp only [goes_go]; refine ⟨dc0, ?_⟩)
  refine Goes.step rfl (fun _ h₁ => ?_); replace hF := lk_rely hF h₁; clear h₁; (rw [stepG_region]; simp only [goes_go, List.size_toArray, List.length_cons, List.length_nil, Nat.reduceAdd, Nat.zero_add, List.range, List.range.loop]; refine ⟨dc0, ?_⟩)
  refine Goes.step rfl (fun _ h₁ => ?_); replace hF := lk_rely hF h₁; clear h₁; (rw [stepG_defer rfl rfl (by k_ne) rfl]; simp only [goes_go]; refine ⟨dc0, ?_⟩; walk_nrm)
  refine Goes.step rfl (fun _ h₁ => ?_); replace hF := lk_rely hF h₁; clear h₁; (rw [stepG_region_end]; simp only [goes_go]; refine ⟨dc0, ?_⟩)
  refine Goes.step rfl (fun _ h₁ => ?_); replace hF := lk_rely hF h₁; clear h₁; (rw [stepG_seq]; simp only [goes_go]; refine ⟨dc0, ?_⟩)
  refine Goes.step rfl (fun _ h₁ => ?_); replace hF := lk_rely hF h₁; clear h₁; (rw [stepG_region]; simp only [goes_go, List.size_toArray, List.length_cons, List.length_nil, Nat.reduceAdd, Nat.zero_add, List.range, List.range.loop]; refine ⟨dc0, ?_⟩)
  refine Goes.step rfl (fun _ h₁ => ?_); replace hF := lk_rely hF h₁; clear h₁; (refine goes_oper_k rfl rfl (by k_ne) (fun K hK => ?_); go_simp; refine hK _ _ ⟨?_, ?_⟩; (focus (rw [listed_nil (by simp [go_sem, *])]; exact dc0)); clear hK K; try w_num)
  refine Goes.step rfl (fun _ h₁ => ?_); replace hF := lk_rely hF h₁; clear h₁; (rw [stepG_region_end]; simp only [goes_go]; refine ⟨dc0, ?_⟩)
  refine Goes.step rfl (fun _ h₁ => ?_); replace hF := lk_rely hF h₁; clear h₁; (rw [stepG_seq]; simp only [goes_go]; refine ⟨dc0, ?_⟩)
  refine Goes.step rfl (fun _ h₁ => ?_); replace hF := lk_rely hF h₁; clear h₁; (rw [stepG_seq]; simp only [goes_go]; refine ⟨dc0, ?_⟩)
  refine Goes.step rfl (fun _ h₁ => ?_); replace hF := lk_rely hF h₁; clear h₁; (rw [stepG_region]; simp only [goes_go, List.size_toArray, List.length_cons, List.length_nil, Nat.reduceAdd, Nat.zero_add, List.range, List.range.loop]; refine ⟨dc0, ?_⟩)
  refine Goes.step rfl (fun _ h₁ => ?_); replace hF := lk_rely hF h₁; clear h₁; (rw [stepG_entry_pure (.bool false) rfl rfl (by k_ne) rfl H.f_inBubble (x_inBubble_n L) (x_inBubble_b L) (x_inBubble_x L) (x_inBubble_f L)]; simp only [goes_go]; refine ⟨dc0, ?_⟩; walk_nrm)
  refine Goes.step rfl (fun _ h₁ => ?_); replace hF := lk_rely hF h₁; clear h₁; (rw [stepG_region_end]; simp only [goes_go]; refine ⟨dc0, ?_⟩)
  refine Goes.step rfl (fun _ h₁ => ?_); replace hF := lk_rely hF h₁; clear h₁; (rw [stepG_cond (t := false) rfl]; simp only [goes_go, if_true, if_false, Bool.false_eq_true, ↓reduceIte]; refine ⟨dc0, ?_⟩)
  refine Goes.step rfl (fun _ h₁ => ?_); replace hF := lk_rely hF h₁; clear h₁; (rw [stepG_skip]; simp only [goes_go]; refine ⟨dc0, ?_⟩)
  refine Goes.step rfl (fun _ h₁ => ?_); replace hF := lk_rely hF h₁; clear h₁; (rw [stepG_seq]; simp only [goes_go]; refine ⟨dc0, ?_⟩)
  refine Goes.step rfl (fun _ h₁ => ?_); replace hF := lk_rely hF h₁; clear h₁; (rw [stepG_region]; simp only [goes_go, List.size_toArray, List.length_cons, List.length_nil, Nat.reduceAdd, Nat.zero_add, List.range, List.range.loop]; refine ⟨dc0, ?_⟩)
  refine Goes.step rfl (fun _ h₁ => ?_); replace hF := lk_rely hF h₁; clear h₁; (refine goes_oper_k rfl rfl (by k_ne) (fun K hK => ?_); go_simp; refine hK _ _ ⟨?_, ?_⟩; (focus (rw [listed_nil (by simp [go_sem, *])]; exact dc0)); clear hK K; try w_num)
  refine Goes.step rfl (fun _ h₁ => ?_); replace hF := lk_rely hF h₁; clear h₁; (refine goes_oper_k rfl rfl (by k_ne) (fun K hK => ?_); go_simp; refine hK _ _ ⟨?_, ?_⟩; (focus (rw [listed_nil (by simp [go_sem, *])]; exact dc0)); clear hK K; try w_num)
  refine Goes.step rfl (fun _ h₁ => ?_); replace hF := lk_rely hF h₁; clear h₁; (refine goes_oper_k rfl rfl (by k_ne) (fun K hK => ?_); go_simp; refine hK _ _ ⟨?_, ?_⟩; (focus (rw [listed_nil (by simp [go_sem, *])]; exact dc0)); clear hK K; try w_num)
  refine Goes.step rfl (fun _ h₁ => ?_); replace hF := lk_rely hF h₁; clear h₁; (refine goes_oper_k rfl rfl (by k_ne) (fun K hK => ?_); go_simp; refine hK _ _ ⟨?_, ?_⟩; (focus (rw [listed_nil (by simp [go_sem, *])]; exact dc0)); clear hK K; try w_num)
  refine Goes.step rfl (fun _ h₁ => ?_); replace hF := lk_rely hF h₁; clear h₁; (refine goes_oper_k rfl rfl (by k_ne) (fun K hK => ?_); go_simp; refine hK _ _ ⟨?_, ?_⟩; (focus (rw [listed_nil (by simp [go_sem, *])]; exact dc0)); clear hK K; try w_num)
  refine Goes.step rfl (fun _ h₁ => ?_); replace hF := lk_rely hF h₁; clear h₁; (refine goes_oper_k rfl rfl (by k_ne) (fun K hK => ?_); go_simp; refine hK _ _ ⟨?_, ?_⟩; (focus (rw [listed_nil (by simp [go_sem, *])]; exact dc0)); clear hK K; try w_num)
  refine Goes.step rfl (fun _ h₁ => ?_); replace hF := lk_rely hF h₁; clear h₁; (refine goes_call rfl rfl (by k_ne) rfl H.f_uAdd (nm_uAdd L) rfl ⟨dc0, ?_⟩; walk_nrmf uAddFn)
  refine Goes.step rfl (fun _ h₁ => ?_); replace hF := lk_rely hF h₁; clear h₁; (rw [stepG_seq]; simp only [goes_go]; refine ⟨dc0, ?_⟩)
  refine Goes.step rfl (fun _ h₁ => ?_); replace hF := lk_rely hF h₁; clear h₁; (rw [stepG_region]; simp only [goes_go, List.size_toArray, List.length_cons, List.length_nil, Nat.reduceAdd, Nat.zero_add, List.range, List.range.loop]; refine ⟨dc0, ?_⟩)
  refine Goes.step rfl (fun _ h₁ => ?_); replace hF := lk_rely hF h₁; clear h₁; (refine goes_oper_k rfl rfl (by k_ne) (fun K hK => ?_); go_simp; refine hK _ _ ⟨?_, ?_⟩; (focus (rw [listed_nil (by simp [go_sem, *])]; exact dc0)); clear hK K; try w_num)
  refine Goes.step rfl (fun _ h₁ => ?_); replace hF := lk_rely hF h₁; clear h₁; (rw [stepG_region_end]; simp only [goes_go]; refine ⟨dc0, ?_⟩)
  refine Goes.step rfl (fun _ h₁ => ?_); replace hF := lk_rely hF h₁; clear h₁; (rw [stepG_seq]; simp only [goes_go]; refine ⟨dc0, ?_⟩)
  refine Goes.step rfl (fun _ h₁ => ?_); replace hF := lk_rely hF h₁; clear h₁; (rw [stepG_region]; simp only [goes_go, List.size_toArray, List.length_cons, List.length_nil, Nat.reduceAdd, Nat.zero_add, List.range, List.range.loop]; refine ⟨dc0, ?_⟩)
  refine Goes.step rfl (fun _ h₁ => ?_); replace hF := lk_rely hF h₁; clear h₁; (refine goes_oper_k rfl rfl (by k_ne) (fun K hK => ?_); go_simp; refine hK _ _ ⟨?_, ?_⟩; (focus (rw [listed_nil (by simp [go_sem, *])]; exact dc0)); clear hK K; try w_num)
  refine Goes.step rfl (fun _ h₁ => ?_); replace hF := lk_rely hF h₁; clear h₁; (refine goes_oper_k rfl rfl (by k_ne) (fun K hK => ?_); go_simp; refine hK _ _ ⟨?_, ?_⟩; (focus (rw [listed_nil (by simp [go_sem, *])]; exact dc0)); clear hK K; try w_num)
  refine Goes.step rfl (fun _ h₁ => ?_); replace hF := lk_rely hF h₁; clear h₁; (refine goes_oper_k rfl rfl (by k_ne) (fun K hK => ?_); go_simp; refine hK _ _ ⟨?_, ?_⟩; (focus (rw [listed_nil (by simp [go_sem, *])]; exact dc0)); clear hK K; try w_num)
  refine Goes.step rfl (fun _ h₁ => ?_); replace hF := lk_rely hF h₁; clear h₁; (refine goes_oper_k rfl rfl (by k_ne) (fun K hK => ?_); go_simp; refine hK _ _ ⟨?_, ?_⟩; (focus (rw [listed_nil (by simp [go_sem, *])]; exact dc0)); clear hK K; try w_num)
  refine Goes.stop (fun w₁ h₁ => ?_)
  replace hF := lk_rely hF h₁
  clear h₁
  refine ⟨rfl, fun v wt hwt hv hw => ?_⟩
  have e0 : IntKind.u64.wrap (KK + 18446744069414584320) = 0 := by decide
  have e1 : IntKind.u64.wrap (KK + 1 + 18446744069414584320) = 1 := by decide
  rcases Nat.eq_zero_or_pos v with rfl | hvp <;> (obtain rfl | rfl : wt = 0 ∨ wt = 1 := by omega)
  · replace hw : WgAt E.ty E.Wg w₁ KK 0 := by simpa using hw
    have z : ((0 : Nat) : Int) * KK + ((0 : Nat) : Int) = 0 := by simp
    rw [z]
    refine ⟨_, (stepG_add_atomic rfl rfl (by k_ne) rfl H.f_addU64 (x_addU64_n L) (x_addU64_b L) (x_addU64_x L) .u64 (x_addU64_f L) rfl rfl hw.cellSt (hw.thaw 0)).trans (by rw [e0]; rfl), fun hl => absurd hl.2 (by decide), fun _ => ⟨qt + 89, ?_⟩⟩
    clear hw
    walk_nrm
    (refine QuitsD.value _ rfl rfl (by k_ne) (fun _ => by go_simp; first | rfl | (try w_num; rfl)) (fun _ => by simp [go_sem, *]) ?_; walk_nrm; try w_num)
    (refine QuitsD.ctl rfl (fun w => by rw [stepG_region_end]) ?_)
    (refine QuitsD.ctl rfl (fun w => by rw [stepG_ret']) ?_)
    (refine QuitsD.leave1 rfl rfl H.f_uAdd rfl ?_; walk_nrm)
    (refine QuitsD.value _ rfl rfl (by k_ne) (fun _ => by go_simp; first | rfl | (try w_num; rfl)) (fun _ => by simp [go_sem, *]) ?_; walk_nrm; try w_num)
    (refine QuitsD.ctl rfl (fun w => by rw [stepG_region_end]) ?_)
    (refine QuitsD.ctl rfl (fun w => by rw [stepG_seq]) ?_)
    (refine QuitsD.ctl rfl (fun w => by rw [stepG_seq]) ?_)
    (refine QuitsD.ctl rfl (fun w => by rw [stepG_region]) ?_; simp only [List.size_toArray, List.length_cons, List.length_nil, Nat.reduceAdd, Nat.zero_add, List.range, List.range.loop])
    (refine QuitsD.value _ rfl rfl (by k_ne) (fun _ => by go_simp; first | rfl | (try w_num; rfl)) (fun _ => by simp [go_sem, *]) ?_; walk_nrm; try w_num)
    (refine QuitsD.value _ rfl rfl (by k_ne) (fun _ => by go_simp; first | rfl | (try w_num; rfl)) (fun _ => by simp [go_sem, *]) ?_; walk_nrm; try w_num)
    (refine QuitsD.value _ rfl rfl (by k_ne) (fun _ => by go_simp; first | rfl | (try w_num; rfl)) (fun _ => by simp [go_sem, *]) ?_; walk_nrm; try w_num)
    (refine QuitsD.value _ rfl rfl (by k_ne) (fun _ => by go_simp; first | rfl | (try w_num; rfl)) (fun _ => by simp [go_sem, *]) ?_; walk_nrm; try w_num)
    (refine QuitsD.unwanted rfl rfl ?_; walk_nrm)
    (refine QuitsD.unwanted rfl rfl ?_; walk_nrm)
    (refine QuitsD.value _ rfl rfl (by k_ne) (fun _ => by go_simp; first | rfl | (try w_num; rfl)) (fun _ => by simp [go_sem, *]) ?_; walk_nrm; try w_num)
    (refine QuitsD.ctl rfl (fun w => by rw [stepG_region_end]) ?_)
    (refine QuitsD.ctl rfl (fun w => by rw [stepG_cond (t := false) rfl]) ?_; simp only [if_true, if_false, Bool.false_eq_true, ↓reduceIte])
    (refine QuitsD.ctl rfl (fun w => by rw [stepG_skip]) ?_)
    (refine QuitsD.ctl rfl (fun w => by rw [stepG_seq]) ?_)
    (refine QuitsD.ctl rfl (fun w => by rw [stepG_region]) ?_; simp only [List.size_toArray, List.length_cons, List.length_nil, Nat.reduceAdd, Nat.zero_add, List.range, List.range.loop])
    (refine QuitsD.value _ rfl rfl (by k_ne) (fun _ => by go_simp; first | rfl | (try w_num; rfl)) (fun _ => by simp [go_sem, *]) ?_; walk_nrm; try w_num)
    (refine QuitsD.value _ rfl rfl (by k_ne) (fun _ => by go_simp; first | rfl | (try w_num; rfl)) (fun _ => by simp [go_sem, *]) ?_; walk_nrm; try w_num)
    (refine QuitsD.value _ rfl rfl (by k_ne) (fun _ => by go_simp; first | rfl | (try w_num; rfl)) (fun _ => by simp [go_sem, *]) ?_; walk_nrm; try w_num)
    (refine QuitsD.value _ rfl rfl (by k_ne) (fun _ => by go_simp; first | rfl | (try w_num; rfl)) (fun _ => by simp [go_sem, *]) ?_; walk_nrm; try w_num)
    (refine QuitsD.ctl rfl (fun w => by rw [stepG_region_end]) ?_)
    (refine QuitsD.ctl rfl (fun w => by rw [stepG_seq]) ?_)
    (refine QuitsD.ctl rfl (fun w => by rw [stepG_region]) ?_; simp only [List.size_toArray, List.length_cons, List.length_nil, Nat.reduceAdd, Nat.zero_add, List.range, List.range.loop])
    (refine QuitsD.value _ rfl rfl (by k_ne) (fun _ => by go_simp; first | rfl | (try w_num; rfl)) (fun _ => by simp [go_sem, *]) ?_; walk_nrm; try w_num)
    (refine QuitsD.value _ rfl rfl (by k_ne) (fun _ => by go_simp; first | rfl | (try w_num; rfl)) (fun _ => by simp [go_sem, *]) ?_; walk_nrm; try w_num)
    (refine QuitsD.value _ rfl rfl (by k_ne) (fun _ => by go_simp; first | rfl | (try w_num; rfl)) (fun _ => by simp [go_sem, *]) ?_; walk_nrm; try w_num)
    (refine QuitsD.value _ rfl rfl (by k_ne) (fun _ => by go_simp; first | rfl | (try w_num; rfl)) (fun _ => by simp [go_sem, *]) ?_; walk_nrm; try w_num)
    (refine QuitsD.ctl rfl (fun w => by rw [stepG_region_end]) ?_)
    (refine QuitsD.ctl rfl (fun w => by rw [stepG_seq]) ?_)
    (refine QuitsD.ctl rfl (fun w => by rw [stepG_seq]) ?_)
    (refine QuitsD.ctl rfl (fun w => by rw [stepG_region]) ?_; simp only [List.size_toArray, List.length_cons, List.length_nil, Nat.reduceAdd, Nat.zero_add, List.range, List.range.loop])
    (refine QuitsD.value _ rfl rfl (by k_ne) (fun _ => by go_simp; first | rfl | (try w_num; rfl)) (fun _ => by simp [go_sem, *]) ?_; walk_nrm; try w_num)
    (refine QuitsD.value _ rfl rfl (by k_ne) (fun _ => by go_simp; first | rfl | (try w_num; rfl)) (fun _ => by simp [go_sem, *]) ?_; walk_nrm; try w_num)
    (refine QuitsD.value _ rfl rfl (by k_ne) (fun _ => by go_simp; first | rfl | (try w_num; rfl)) (fun _ => by simp [go_sem, *]) ?_; walk_nrm; try w_num)
    (refine QuitsD.value _ rfl rfl (by k_ne) (fun _ => by go_simp; first | rfl | (try w_num; rfl)) (fun _ => by simp [go_sem, *]) ?_; walk_nrm; try w_num)
    (refine QuitsD.value _ rfl rfl (by k_ne) (fun _ => by go_simp; first | rfl | (try w_num; rfl)) (fun _ => by simp [go_sem, *]) ?_; walk_nrm; try w_num)
    (refine QuitsD.unwanted rfl rfl ?_; walk_nrm)
    (refine QuitsD.unwanted rfl rfl ?_; walk_nrm)
    (refine QuitsD.unwanted rfl rfl ?_; walk_nrm)
    (refine QuitsD.unwanted rfl rfl ?_; walk_nrm)
    (refine QuitsD.value _ rfl rfl (by k_ne) (fun _ => by go_simp; first | rfl | (try w_num; rfl)) (fun _ => by simp [go_sem, *]) ?_; walk_nrm; try w_num)
    (refine QuitsD.ctl rfl (fun w => by rw [stepG_region_end]) ?_)
    (refine QuitsD.ctl rfl (fun w => by rw [stepG_cond (t := false) rfl]) ?_; simp only [if_true, if_false, Bool.false_eq_true, ↓reduceIte])
    (refine QuitsD.ctl rfl (fun w => by rw [stepG_skip]) ?_)
    (refine QuitsD.ctl rfl (fun w => by rw [stepG_seq]) ?_)
    (refine QuitsD.ctl rfl (fun w => by rw [stepG_seq]) ?_)
    (refine QuitsD.ctl rfl (fun w => by rw [stepG_region]) ?_; simp only [List.size_toArray, List.length_cons, List.length_nil, Nat.reduceAdd, Nat.zero_add, List.range, List.range.loop])
    (refine QuitsD.value _ rfl rfl (by k_ne) (fun _ => by go_simp; first | rfl | (try w_num; rfl)) (fun _ => by simp [go_sem, *]) ?_; walk_nrm; try w_num)
    (refine QuitsD.value _ rfl rfl (by k_ne) (fun _ => by go_simp; first | rfl | (try w_num; rfl)) (fun _ => by simp [go_sem, *]) ?_; walk_nrm; try w_num)
    (refine QuitsD.ctl rfl (fun w => by rw [stepG_region_end]) ?_)
    (refine QuitsD.ctl rfl (fun w => by rw [stepG_cond (t := false) rfl]) ?_; simp only [if_true, if_false, Bool.false_eq_true, ↓reduceIte])
    (refine QuitsD.ctl rfl (fun w => by rw [stepG_skip]) ?_)
    (refine QuitsD.ctl rfl (fun w => by rw [stepG_seq]) ?_)
    (refine QuitsD.ctl rfl (fun w => by rw [stepG_seq]) ?_)
    (refine QuitsD.ctl rfl (fun w => by rw [stepG_region]) ?_; simp only [List.size_toArray, List.length_cons, List.length_nil, Nat.reduceAdd, Nat.zero_add, List.range, List.range.loop])
    (refine QuitsD.value _ rfl rfl (by k_ne) (fun _ => by go_simp; first | rfl | (try w_num; rfl)) (fun _ => by simp [go_sem, *]) ?_; walk_nrm; try w_num)
    (refine QuitsD.value _ rfl rfl (by k_ne) (fun _ => by go_simp; first | rfl | (try w_num; rfl)) (fun _ => by simp [go_sem, *]) ?_; walk_nrm; try w_num)
    (refine QuitsD.value _ rfl rfl (by k_ne) (fun _ => by go_simp; first | rfl | (try w_num; rfl)) (fun _ => by simp [go_sem, *]) ?_; walk_nrm; try w_num)
    (refine QuitsD.unwanted rfl rfl ?_; walk_nrm)
    (refine QuitsD.unwanted rfl rfl ?_; walk_nrm)
    (refine QuitsD.value _ rfl rfl (by k_ne) (fun _ => by go_simp; first | rfl | (try w_num; rfl)) (fun _ => by simp [go_sem, *]) ?_; walk_nrm; try w_num)
    (refine QuitsD.value _ rfl rfl (by k_ne) (fun _ => by go_simp; first | rfl | (try w_num; rfl)) (fun _ => by simp [go_sem, *]) ?_; walk_nrm; try w_num)
    (refine QuitsD.unwanted rfl rfl ?_; walk_nrm)
    (refine QuitsD.unwanted rfl rfl ?_; walk_nrm)
    (refine QuitsD.unwanted rfl rfl ?_; walk_nrm)
    (refine QuitsD.unwanted rfl rfl ?_; walk_nrm)
    (refine QuitsD.value _ rfl rfl (by k_ne) (fun _ => by go_simp; first | rfl | (try w_num; rfl)) (fun _ => by simp [go_sem, *]) ?_; walk_nrm; try w_num)
    (refine QuitsD.ctl rfl (fun w => by rw [stepG_region_end]) ?_)
    (refine QuitsD.ctl rfl (fun w => by rw [stepG_cond (t := false) rfl]) ?_; simp only [if_true, if_false, Bool.false_eq_true, ↓reduceIte])
    (refine QuitsD.ctl rfl (fun w => by rw [stepG_skip]) ?_)
    (refine QuitsD.ctl rfl (fun w => by rw [stepG_seq]) ?_)
    (refine QuitsD.ctl rfl (fun w => by rw [stepG_seq]) ?_)
    (refine QuitsD.ctl rfl (fun w => by rw [stepG_region]) ?_; simp only [List.size_toArray, List.length_cons, List.length_nil, Nat.reduceAdd, Nat.zero_add, List.range, List.range.loop])
    (refine QuitsD.value _ rfl rfl (by k_ne) (fun _ => by go_simp; first | rfl | (try w_num; rfl)) (fun _ => by simp [go_sem, *]) ?_; walk_nrm; try w_num)
    (refine QuitsD.value _ rfl rfl (by k_ne) (fun _ => by go_simp; first | rfl | (try w_num; rfl)) (fun _ => by simp [go_sem, *]) ?_; walk_nrm; try w_num)
    (refine QuitsD.value _ rfl rfl (by k_ne) (fun _ => by go_simp; first | rfl | (try w_num; rfl)) (fun _ => by simp [go_sem, *]) ?_; walk_nrm; try w_num)
    (refine QuitsD.value _ rfl rfl (by k_ne) (fun _ => by go_simp; first | rfl | (try w_num; rfl)) (fun _ => by simp [go_sem, *]) ?_; walk_nrm; try w_num)
    (refine QuitsD.value _ rfl rfl (by k_ne) (fun _ => by go_simp; first | rfl | (try w_num; rfl)) (fun _ => by simp [go_sem, *]) ?_; walk_nrm; try w_num)
    (refine QuitsD.value _ rfl rfl (by k_ne) (fun _ => by go_simp; first | rfl | (try w_num; rfl)) (fun _ => by simp [go_sem, *]) ?_; walk_nrm; try w_num)
    (refine QuitsD.ctl rfl (fun w => by rw [stepG_region_end]) ?_)
    (refine QuitsD.ctl rfl (fun w => by rw [stepG_cond (t := true) rfl]) ?_; simp only [if_true, if_false, Bool.false_eq_true, ↓reduceIte])
    (refine QuitsD.ctl rfl (fun w => by rw [stepG_ret']) ?_)
    refine QuitsD.unwind_mark .enable rfl (by simp) rfl H.f_enable (x_enable_n L) (x_enable_b L) (x_enable_x L) (x_enable_f L) ?_
    simp only [deafBehind_enable1]
    refine QuitsD.leave0 rfl rfl H.f_add rfl ?_
    walk_nrm
    exact hT
  · replace hw : WgAt E.ty E.Wg w₁ (KK + 1) 0 := by simpa using hw
    have z : ((0 : Nat) : Int) * KK + ((1 : Nat) : Int) = 1 := by simp
    rw [z]
    refine ⟨_, (stepG_add_atomic rfl rfl (by k_ne) rfl H.f_addU64 (x_addU64_n L) (x_addU64_b L) (x_addU64_x L) .u64 (x_addU64_f L) rfl rfl hw.cellSt (hw.thaw 0)).trans (by rw [e1]; rfl), fun _ => ⟨120, ?_⟩, fun hl => absurd ⟨rfl, rfl⟩ hl⟩
    replace hF : E.live (w₁.setCell (stA E.Wg) (.int .u64 1)) := live_set HG hF hw 1
    clear hw
    walk_nrm
    refine Goes.step rfl (fun _ h₁ => ?_); replace hF := lk_rely hF h₁; clear h₁; (refine goes_oper_k rfl rfl (by k_ne) (fun K hK => ?_); go_simp; refine hK _ _ ⟨?_, ?_⟩; (focus (rw [listed_nil (by simp [go_sem, *])]; exact dc0)); clear hK K; try w_num)
    refine Goes.step rfl (fun _ h₁ => ?_); replace hF := lk_rely hF h₁; clear h₁; (rw [stepG_region_end]; simp only [goes_go]; refine ⟨dc0, ?_⟩)
    refine Goes.step rfl (fun _ h₁ => ?_); replace hF := lk_rely hF h₁; clear h₁; (rw [stepG_ret']; simp only [goes_go]; refine ⟨dc0, ?_⟩)
    refine Goes.step rfl (fun _ h₁ => ?_); replace hF := lk_rely hF h₁; clear h₁; (refine goes_leave1 rfl rfl H.f_uAdd rfl ⟨dc0, ?_⟩; walk_nrm)
    refine Goes.step rfl (fun _ h₁ => ?_); replace hF := lk_rely hF h₁; clear h₁; (refine goes_oper_k rfl rfl (by k_ne) (fun K hK => ?_); go_simp; refine hK _ _ ⟨?_, ?_⟩; (focus (rw [listed_nil (by simp [go_sem, *])]; exact dc0)); clear hK K; try w_num)
    refine Goes.step rfl (fun _ h₁ => ?_); replace hF := lk_rely hF h₁; clear h₁; (rw [stepG_region_end]; simp only [goes_go]; refine ⟨dc0, ?_⟩)
    refine Goes.step rfl (fun _ h₁ => ?_); replace hF := lk_rely hF h₁; clear h₁; (rw [stepG_seq]; simp only [goes_go]; refine ⟨dc0, ?_⟩)
    refine Goes.step rfl (fun _ h₁ => ?_); replace hF := lk_rely hF h₁; clear h₁; (rw [stepG_seq]; simp only [goes_go]; refine ⟨dc0, ?_⟩)
    refine Goes.step rfl (fun _ h₁ => ?_); replace hF := lk_rely hF h₁; clear h₁; (rw [stepG_region]; simp only [goes_go, List.size_toArray, List.length_cons, List.length_nil, Nat.reduceAdd, Nat.zero_add, List.range, List.range.loop]; refine ⟨dc0, ?_⟩)
    refine Goes.step rfl (fun _ h₁ => ?_); replace hF := lk_rely hF h₁; clear h₁; (refine goes_oper_k rfl rfl (by k_ne) (fun K hK => ?_); go_simp; refine hK _ _ ⟨?_, ?_⟩; (focus (rw [listed_nil (by simp [go_sem, *])]; exact dc0)); clear hK K; try w_num)
    refine Goes.step rfl (fun _ h₁ => ?_); replace hF := lk_rely hF h₁; clear h₁; (refine goes_oper_k rfl rfl (by k_ne) (fun K hK => ?_); go_simp; refine hK _ _ ⟨?_, ?_⟩; (focus (rw [listed_nil (by simp [go_sem, *])]; exact dc0)); clear hK K; try w_num)
    refine Goes.step rfl (fun _ h₁ => ?_); replace hF := lk_rely hF h₁; clear h₁; (refine goes_oper_k rfl rfl (by k_ne) (fun K hK => ?_); go_simp; refine hK _ _ ⟨?_, ?_⟩; (focus (rw [listed_nil (by simp [go_sem, *])]; exact dc0)); clear hK K; try w_num)
    refine Goes.step rfl (fun _ h₁ => ?_); replace hF := lk_rely hF h₁; clear h₁; (refine goes_oper_k rfl rfl (by k_ne) (fun K hK => ?_); go_simp; refine hK _ _ ⟨?_, ?_⟩; (focus (rw [listed_nil (by simp [go_sem, *])]; exact dc0)); clear hK K; try w_num)
    refine Goes.step rfl (fun _ h₁ => ?_); replace hF := lk_rely hF h₁; clear h₁; (rw [stepG_unwanted rfl rfl]; simp only [goes_go]; refine ⟨dc0, ?_⟩; walk_nrm)
    refine Goes.step rfl (fun _ h₁ => ?_); replace hF := lk_rely hF h₁; clear h₁; (rw [stepG_unwanted rfl rfl]; simp only [goes_go]; refine ⟨dc0, ?_⟩; walk_nrm)
    refine Goes.step rfl (fun _ h₁ => ?_); replace hF := lk_rely hF h₁; clear h₁; (refine goes_oper_k rfl rfl (by k_ne) (fun K hK => ?_); go_simp; refine hK _ _ ⟨?_, ?_⟩; (focus (rw [listed_nil (by simp [go_sem, *])]; exact dc0)); clear hK K; try w_num)
    refine Goes.step rfl (fun _ h₁ => ?_); replace hF := lk_rely hF h₁; clear h₁; (rw [stepG_region_end]; simp only [goes_go]; refine ⟨dc0, ?_⟩)
    refine Goes.step rfl (fun _ h₁ => ?_); replace hF := lk_rely hF h₁; clear h₁; (rw [stepG_cond (t := false) rfl]; simp only [goes_go, if_true, if_false, Bool.false_eq_true, ↓reduceIte]; refine ⟨dc0, ?_⟩)
    refine Goes.step rfl (fun _ h₁ => ?_); replace hF := lk_rely hF h₁; clear h₁; (rw [stepG_skip]; simp only [goes_go]; refine ⟨dc0, ?_⟩)
    refine Goes.step rfl (fun _ h₁ => ?_); replace hF := lk_rely hF h₁; clear h₁; (rw [stepG_seq]; simp only [goes_go]; refine ⟨dc0, ?_⟩)
    refine Goes.step rfl (fun _ h₁ => ?_); replace hF := lk_rely hF h₁; clear h₁; (rw [stepG_region]; simp only [goes_go, List.size_toArray, List.length_cons, List.length_nil, Nat.reduceAdd, Nat.zero_add, List.range, List.range.loop]; refine ⟨dc0, ?_⟩)
    refine Goes.step rfl (fun _ h₁ => ?_); replace hF := lk_rely hF h₁; clear h₁; (refine goes_oper_k rfl rfl (by k_ne) (fun K hK => ?_); go_simp; refine hK _ _ ⟨?_, ?_⟩; (focus (rw [listed_nil (by simp [go_sem, *])]; exact dc0)); clear hK K; try w_num)
    refine Goes.step rfl (fun _ h₁ => ?_); replace hF := lk_rely hF h₁; clear h₁; (refine goes_oper_k rfl rfl (by k_ne) (fun K hK => ?_); go_simp; refine hK _ _ ⟨?_, ?_⟩; (focus (rw [listed_nil (by simp [go_sem, *])]; exact dc0)); clear hK K; try w_num)
    refine Goes.step rfl (fun _ h₁ => ?_); replace hF := lk_rely hF h₁; clear h₁; (refine goes_oper_k rfl rfl (by k_ne) (fun K hK => ?_); go_simp; refine hK _ _ ⟨?_, ?_⟩; (focus (rw [listed_nil (by simp [go_sem, *])]; exact dc0)); clear hK K; try w_num)
    refine Goes.step rfl (fun _ h₁ => ?_); replace hF := lk_rely hF h₁; clear h₁; (refine goes_oper_k rfl rfl (by k_ne) (fun K hK => ?_); go_simp; refine hK _ _ ⟨?_, ?_⟩; (focus (rw [listed_nil (by simp [go_sem, *])]; exact dc0)); clear hK K; try w_num)
    refine Goes.step rfl (fun _ h₁ => ?_); replace hF := lk_rely hF h₁; clear h₁; (rw [stepG_region_end]; simp only [goes_go]; refine ⟨dc0, ?_⟩)
    refine Goes.step rfl (fun _ h₁ => ?_); replace hF := lk_rely hF h₁; clear h₁; (rw [stepG_seq]; simp only [goes_go]; refine ⟨dc0, ?_⟩)
    refine Goes.step rfl (fun _ h₁ => ?_); replace hF := lk_rely hF h₁; clear h₁; (rw [stepG_region]; simp only [goes_go, List.size_toArray, List.length_cons, List.length_nil, Nat.reduceAdd, Nat.zero_add, List.range, List.range.loop]; refine ⟨dc0, ?_⟩)
    refine Goes.step rfl (fun _ h₁ => ?_); replace hF := lk_rely hF h₁; clear h₁; (refine goes_oper_k rfl rfl (by k_ne) (fun K hK => ?_); go_simp; refine hK _ _ ⟨?_, ?_⟩; (focus (rw [listed_nil (by simp [go_sem, *])]; exact dc0)); clear hK K; try w_num)
    refine Goes.step rfl (fun _ h₁ => ?_); replace hF := lk_rely hF h₁; clear h₁; (refine goes_oper_k rfl rfl (by k_ne) (fun K hK => ?_); go_simp; refine hK _ _ ⟨?_, ?_⟩; (focus (rw [listed_nil (by simp [go_sem, *])]; exact dc0)); clear hK K; try w_num)
    refine Goes.step rfl (fun _ h₁ => ?_); replace hF := lk_rely hF h₁; clear h₁; (refine goes_oper_k rfl rfl (by k_ne) (fun K hK => ?_); go_simp; refine hK _ _ ⟨?_, ?_⟩; (focus (rw [listed_nil (by simp [go_sem, *])]; exact dc0)); clear hK K; try w_num)
    refine Goes.step rfl (fun _ h₁ => ?_); replace hF := lk_rely hF h₁; clear h₁; (refine goes_oper_k rfl rfl (by k_ne) (fun K hK => ?_); go_simp; refine hK _ _ ⟨?_, ?_⟩; (focus (rw [listed_nil (by simp [go_sem, *])]; exact dc0)); clear hK K; try w_num)
    refine Goes.step rfl (fun _ h₁ => ?_); replace hF := lk_rely hF h₁; clear h₁; (rw [stepG_region_end]; simp only [goes_go]; refine ⟨dc0, ?_⟩)
    refine Goes.step rfl (fun _ h₁ => ?_); replace hF := lk_rely hF h₁; clear h₁; (rw [stepG_seq]; simp only [goes_go]; refine ⟨dc0, ?_⟩)
    refine Goes.step rfl (fun _ h₁ => ?_); replace hF := lk_rely hF h₁; clear h₁; (rw [stepG_seq]; simp only [goes_go]; refine ⟨dc0, ?_⟩)
    refine Goes.step rfl (fun _ h₁ => ?_); replace hF := lk_rely hF h₁; clear h₁; (rw [stepG_region]; simp only [goes_go, List.size_toArray, List.length_cons, List.length_nil, Nat.reduceAdd, Nat.zero_add, List.range, List.range.loop]; refine ⟨dc0, ?_⟩)
    refine Goes.step rfl (fun _ h₁ => ?_); replace hF := lk_rely hF h₁; clear h₁; (refine goes_oper_k rfl rfl (by k_ne) (fun K hK => ?_); go_simp; refine hK _ _ ⟨?_, ?_⟩; (focus (rw [listed_nil (by simp [go_sem, *])]; exact dc0)); clear hK K; try w_num)
    refine Goes.step rfl (fun _ h₁ => ?_); replace hF := lk_rely hF h₁; clear h₁; (refine goes_oper_k rfl rfl (by k_ne) (fun K hK => ?_); go_simp; refine hK _ _ ⟨?_, ?_⟩; (focus (rw [listed_nil (by simp [go_sem, *])]; exact dc0)); clear hK K; try w_num)
    refine Goes.step rfl (fun _ h₁ => ?_); replace hF := lk_rely hF h₁; clear h₁; (refine goes_oper_k rfl rfl (by k_ne) (fun K hK => ?_); go_simp; refine hK _ _ ⟨?_, ?_⟩; (focus (rw [listed_nil (by simp [go_sem, *])]; exact dc0)); clear hK K; try w_num)
    refine Goes.step rfl (fun _ h₁ => ?_); replace hF := lk_rely hF h₁; clear h₁; (refine goes_oper_k rfl rfl (by k_ne) (fun K hK => ?_); go_simp; refine hK _ _ ⟨?_, ?_⟩; (focus (rw [listed_nil (by simp [go_sem, *])]; exact dc0)); clear hK K; try w_num)
    refine Goes.step rfl (fun _ h₁ => ?_); replace hF := lk_rely hF h₁; clear h₁; (refine goes_oper_k rfl rfl (by k_ne) (fun K hK => ?_); go_simp; refine hK _ _ ⟨?_, ?_⟩; (focus (rw [listed_nil (by simp [go_sem, *])]; exact dc0)); clear hK K; try w_num)
    refine Goes.step rfl (fun _ h₁ => ?_); replace hF := lk_rely hF h₁; clear h₁; (rw [stepG_unwanted rfl rfl]; simp only [goes_go]; refine ⟨dc0, ?_⟩; walk_nrm)
    refine Goes.step rfl (fun _ h₁ => ?_); replace hF := lk_rely hF h₁; clear h₁; (rw [stepG_unwanted rfl rfl]; simp only [goes_go]; refine ⟨dc0, ?_⟩; walk_nrm)
    refine Goes.step rfl (fun _ h₁ => ?_); replace hF := lk_rely hF h₁; clear h₁; (rw [stepG_unwanted rfl rfl]; simp only [goes_go]; refine ⟨dc0, ?_⟩; walk_nrm)
    refine Goes.step rfl (fun _ h₁ => ?_); replace hF := lk_rely hF h₁; clear h₁; (rw [stepG_unwanted rfl rfl]; simp only [goes_go]; refine ⟨dc0, ?_⟩; walk_nrm)
    refine Goes.step rfl (fun _ h₁ => ?_); replace hF := lk_rely hF h₁; clear h₁; (refine goes_oper_k rfl rfl (by k_ne) (fun K hK => ?_); go_simp; refine hK _ _ ⟨?_, ?_⟩; (focus (rw [listed_nil (by simp [go_sem, *])]; exact dc0)); clear hK K; try w_num)
    refine Goes.step rfl (fun _ h₁ => ?_); replace hF := lk_rely hF h₁; clear h₁; (rw [stepG_region_end]; simp only [goes_go]; refine ⟨dc0, ?_⟩)
    refine Goes.step rfl (fun _ h₁ => ?_); replace hF := lk_rely hF h₁; clear h₁; (rw [stepG_cond (t := false) rfl]; simp only [goes_go, if_true, if_false, Bool.false_eq_true, ↓reduceIte]; refine ⟨dc0, ?_⟩)
    refine Goes.step rfl (fun _ h₁ => ?_); replace hF := lk_rely hF h₁; clear h₁; (rw [stepG_skip]; simp only [goes_go]; refine ⟨dc0, ?_⟩)
    refine Goes.step rfl (fun _ h₁ => ?_); replace hF := lk_rely hF h₁; clear h₁; (rw [stepG_seq]; simp only [goes_go]; refine ⟨dc0, ?_⟩)
    refine Goes.step rfl (fun _ h₁ => ?_); replace hF := lk_rely hF h₁; clear h₁; (rw [stepG_seq]; simp only [goes_go]; refine ⟨dc0, ?_⟩)
    refine Goes.step rfl (fun _ h₁ => ?_); replace hF := lk_rely hF h₁; clear h₁; (rw [stepG_region]; simp only [goes_go, List.size_toArray, List.length_cons, List.length_nil, Nat.reduceAdd, Nat.zero_add, List.range, List.range.loop]; refine ⟨dc0, ?_⟩)
    refine Goes.step rfl (fun _ h₁ => ?_); replace hF := lk_rely hF h₁; clear h₁; (refine goes_oper_k rfl rfl (by k_ne) (fun K hK => ?_); go_simp; refine hK _ _ ⟨?_, ?_⟩; (focus (rw [listed_nil (by simp [go_sem, *])]; exact dc0)); clear hK K; try w_num)
    refine Goes.step rfl (fun _ h₁ => ?_); replace hF := lk_rely hF h₁; clear h₁; (refine goes_oper_k rfl rfl (by k_ne) (fun K hK => ?_); go_simp; refine hK _ _ ⟨?_, ?_⟩; (focus (rw [listed_nil (by simp [go_sem, *])]; exact dc0)); clear hK K; try w_num)
    refine Goes.step rfl (fun _ h₁ => ?_); replace hF := lk_rely hF h₁; clear h₁; (rw [stepG_region_end]; simp only [goes_go]; refine ⟨dc0, ?_⟩)
    refine Goes.step rfl (fun _ h₁ => ?_); replace hF := lk_rely hF h₁; clear h₁; (rw [stepG_cond (t := false) rfl]; simp only [goes_go, if_true, if_false, Bool.false_eq_true, ↓reduceIte]; refine ⟨dc0, ?_⟩)
    refine Goes.step rfl (fun _ h₁ => ?_); replace hF := lk_rely hF h₁; clear h₁; (rw [stepG_skip]; simp only [goes_go]; refine ⟨dc0, ?_⟩)
    refine Goes.step rfl (fun _ h₁ => ?_); replace hF := lk_rely hF h₁; clear h₁; (rw [stepG_seq]; simp only [goes_go]; refine ⟨dc0, ?_⟩)
    refine Goes.step rfl (fun _ h₁ => ?_); replace hF := lk_rely hF h₁; clear h₁; (rw [stepG_seq]; simp only [goes_go]; refine ⟨dc0, ?_⟩)
    refine Goes.step rfl (fun _ h₁ => ?_); replace hF := lk_rely hF h₁; clear h₁; (rw [stepG_region]; simp only [goes_go, List.size_toArray, List.length_cons, List.length_nil, Nat.reduceAdd, Nat.zero_add, List.range, List.range.loop]; refine ⟨dc0, ?_⟩)
    refine Goes.step rfl (fun _ h₁ => ?_); replace hF := lk_rely hF h₁; clear h₁; (refine goes_oper_k rfl rfl (by k_ne) (fun K hK => ?_); go_simp; refine hK _ _ ⟨?_, ?_⟩; (focus (rw [listed_nil (by simp [go_sem, *])]; exact dc0)); clear hK K; try w_num)
    refine Goes.step rfl (fun _ h₁ => ?_); replace hF := lk_rely hF h₁; clear h₁; (refine goes_oper_k rfl rfl (by k_ne) (fun K hK => ?_); go_simp; refine hK _ _ ⟨?_, ?_⟩; (focus (rw [listed_nil (by simp [go_sem, *])]; exact dc0)); clear hK K; try w_num)
    refine Goes.step rfl (fun _ h₁ => ?_); replace hF := lk_rely hF h₁; clear h₁; (refine goes_oper_k rfl rfl (by k_ne) (fun K hK => ?_); go_simp; refine hK _ _ ⟨?_, ?_⟩; (focus (rw [listed_nil (by simp [go_sem, *])]; exact dc0)); clear hK K; try w_num)
    refine Goes.step rfl (fun _ h₁ => ?_); replace hF := lk_rely hF h₁; clear h₁; (refine goes_oper_k rfl rfl (by k_ne) (fun K hK => ?_); go_simp; refine hK _ _ ⟨?_, ?_⟩; (focus (rw [listed_nil (by simp [go_sem, *])]; exact dc0)); clear hK K; try w_num)
    refine Goes.step rfl (fun _ h₁ => ?_); replace hF := lk_rely hF h₁; clear h₁; (refine goes_oper_k rfl rfl (by k_ne) (fun K hK => ?_); go_simp; refine hK _ _ ⟨?_, ?_⟩; (focus (rw [listed_nil (by simp [go_sem, *])]; exact dc0)); clear hK K; try w_num)
    refine Goes.step rfl (fun _ h₁ => ?_); replace hF := lk_rely hF h₁; clear h₁; (refine goes_oper_k rfl rfl (by k_ne) (fun K hK => ?_); go_simp; refine hK _ _ ⟨?_, ?_⟩; (focus (rw [listed_nil (by simp [go_sem, *])]; exact dc0)); clear hK K; try w_num)
    refine Goes.step rfl (fun _ h₁ => ?_); replace hF := lk_rely hF h₁; clear h₁; (refine goes_oper_k rfl rfl (by k_ne) (fun K hK => ?_); go_simp; refine hK _ _ ⟨?_, ?_⟩; (focus (rw [listed_nil (by simp [go_sem, *])]; exact dc0)); clear hK K; try w_num)
    refine Goes.step rfl (fun _ h₁ => ?_); replace hF := lk_rely hF h₁; clear h₁; (rw [stepG_unwanted rfl rfl]; simp only [goes_go]; refine ⟨dc0, ?_⟩; walk_nrm)
    refine Goes.step rfl (fun _ h₁ => ?_); replace hF := lk_rely hF h₁; clear h₁; (rw [stepG_unwanted rfl rfl]; simp only [goes_go]; refine ⟨dc0, ?_⟩; walk_nrm)
    refine Goes.step rfl (fun _ h₁ => ?_); replace hF := lk_rely hF h₁; clear h₁; (rw [stepG_unwanted rfl rfl]; simp only [goes_go]; refine ⟨dc0, ?_⟩; walk_nrm)
    refine Goes.step rfl (fun _ h₁ => ?_); replace hF := lk_rely hF h₁; clear h₁; (rw [stepG_unwanted rfl rfl]; simp only [goes_go]; refine ⟨dc0, ?_⟩; walk_nrm)
    refine Goes.step rfl (fun _ h₁ => ?_); replace hF := lk_rely hF h₁; clear h₁; (refine goes_oper_k rfl rfl (by k_ne) (fun K hK => ?_); go_simp; refine hK _ _ ⟨?_, ?_⟩; (focus (rw [listed_nil (by simp [go_sem, *])]; exact dc0)); clear hK K; try w_num)
    refine Goes.step rfl (fun _ h₁ => ?_); replace hF := lk_rely hF h₁; clear h₁; (rw [stepG_region_end]; simp only [goes_go]; refine ⟨dc0, ?_⟩)
    refine Goes.step rfl (fun _ h₁ => ?_); replace hF := lk_rely hF h₁; clear h₁; (rw [stepG_cond (t := false) rfl]; simp only [goes_go, if_true, if_false, Bool.false_eq_true, ↓reduceIte]; refine ⟨dc0, ?_⟩)
    refine Goes.step rfl (fun _ h₁ => ?_); replace hF := lk_rely hF h₁; clear h₁; (rw [stepG_skip]; simp only [goes_go]; refine ⟨dc0, ?_⟩)
    refine Goes.step rfl (fun _ h₁ => ?_); replace hF := lk_rely hF h₁; clear h₁; (rw [stepG_seq]; simp only [goes_go]; refine ⟨dc0, ?_⟩)
    refine Goes.step rfl (fun _ h₁ => ?_); replace hF := lk_rely hF h₁; clear h₁; (rw [stepG_seq]; simp only [goes_go]; refine ⟨dc0, ?_⟩)
    refine Goes.step rfl (fun _ h₁ => ?_); replace hF := lk_rely hF h₁; clear h₁; (rw [stepG_region]; simp only [goes_go, List.size_toArray, List.length_cons, List.length_nil, Nat.reduceAdd, Nat.zero_add, List.range, List.range.loop]; refine ⟨dc0, ?_⟩)
    refine Goes.step rfl (fun _ h₁ => ?_); replace hF := lk_rely hF h₁; clear h₁; (refine goes_oper_k rfl rfl (by k_ne) (fun K hK => ?_); go_simp; refine hK _ _ ⟨?_, ?_⟩; (focus (rw [listed_nil (by simp [go_sem, *])]; exact dc0)); clear hK K; try w_num)
    refine Goes.step rfl (fun _ h₁ => ?_); replace hF := lk_rely hF h₁; clear h₁; (refine goes_oper_k rfl rfl (by k_ne) (fun K hK => ?_); go_simp; refine hK _ _ ⟨?_, ?_⟩; (focus (rw [listed_nil (by simp [go_sem, *])]; exact dc0)); clear hK K; try w_num)
    refine Goes.step rfl (fun _ h₁ => ?_); replace hF := lk_rely hF h₁; clear h₁; (refine goes_oper_k rfl rfl (by k_ne) (fun K hK => ?_); go_simp; refine hK _ _ ⟨?_, ?_⟩; (focus (rw [listed_nil (by simp [go_sem, *])]; exact dc0)); clear hK K; try w_num)
    refine Goes.step rfl (fun _ h₁ => ?_); replace hF := lk_rely hF h₁; clear h₁; (refine goes_oper_k rfl rfl (by k_ne) (fun K hK => ?_); go_simp; refine hK _ _ ⟨?_, ?_⟩; (focus (rw [listed_nil (by simp [go_sem, *])]; exact dc0)); clear hK K; try w_num)
    refine Goes.step rfl (fun _ h₁ => ?_); replace hF := lk_rely hF h₁; clear h₁; (refine goes_oper_k rfl rfl (by k_ne) (fun K hK => ?_); go_simp; refine hK _ _ ⟨?_, ?_⟩; (focus (rw [listed_nil (by simp [go_sem, *])]; exact dc0)); clear hK K; try w_num)
    refine Goes.step rfl (fun _ h₁ => ?_); replace hF := lk_rely hF h₁; clear h₁; (refine goes_oper_k rfl rfl (by k_ne) (fun K hK => ?_); go_simp; refine hK _ _ ⟨?_, ?_⟩; (focus (rw [listed_nil (by simp [go_sem, *])]; exact dc0)); clear hK K; try w_num)
    refine Goes.step rfl (fun _ h₁ => ?_); replace hF := lk_rely hF h₁; clear h₁; (rw [stepG_region_end]; simp only [goes_go]; refine ⟨dc0, ?_⟩)
    refine Goes.step rfl (fun _ h₁ => ?_); replace hF := lk_rely hF h₁; clear h₁; (rw [stepG_cond (t := false) rfl]; simp only [goes_go, if_true, if_false, Bool.false_eq_true, ↓reduceIte]; refine ⟨dc0, ?_⟩)
    refine Goes.step rfl (fun _ h₁ => ?_); replace hF := lk_rely hF h₁; clear h₁; (rw [stepG_skip]; simp only [goes_go]; refine ⟨dc0, ?_⟩)
    refine Goes.step rfl (fun _ h₁ => ?_); replace hF := lk_rely hF h₁; clear h₁; (rw [stepG_seq]; simp only [goes_go]; refine ⟨dc0, ?_⟩)
    refine Goes.step rfl (fun _ h₁ => ?_); replace hF := lk_rely hF h₁; clear h₁; (rw [stepG_seq]; simp only [goes_go]; refine ⟨dc0, ?_⟩)
    refine Goes.step rfl (fun _ h₁ => ?_); replace hF := lk_rely hF h₁; clear h₁; (rw [stepG_region]; simp only [goes_go, List.size_toArray, List.length_cons, List.length_nil, Nat.reduceAdd, Nat.zero_add, List.range, List.range.loop]; refine ⟨dc0, ?_⟩)
    refine Goes.step rfl (fun _ h₁ => ?_); replace hF := lk_rely hF h₁; clear h₁; (refine goes_oper_k rfl rfl (by k_ne) (fun K hK => ?_); go_simp; refine hK _ _ ⟨?_, ?_⟩; (focus (rw [listed_nil (by simp [go_sem, *])]; exact dc0)); clear hK K; try w_num)
    refine Goes.step rfl (fun _ h₁ => ?_); replace hF := lk_rely hF h₁; clear h₁; (refine goes_oper_k rfl rfl (by k_ne) (fun K hK => ?_); go_simp; refine hK _ _ ⟨?_, ?_⟩; (focus (rw [listed_nil (by simp [go_sem, *])]; exact dc0)); clear hK K; try w_num)
    refine Goes.step rfl (fun _ h₁ => ?_); replace hF := lk_rely hF h₁; clear h₁; (refine goes_oper_k rfl rfl (by k_ne) (fun K hK => ?_); go_simp; refine hK _ _ ⟨?_, ?_⟩; (focus (rw [listed_nil (by simp [go_sem, *])]; exact dc0)); clear hK K; try w_num)
    refine Goes.step rfl (fun _ h₁ => ?_); replace hF := lk_rely hF h₁; clear h₁; (refine goes_call rfl rfl (by k_ne) rfl H.f_uLoad (nm_uLoad L) rfl ⟨dc0, ?_⟩; walk_nrmf uLoadFn)
    refine Goes.step rfl (fun _ h₁ => ?_); replace hF := lk_rely hF h₁; clear h₁; (rw [stepG_seq]; simp only [goes_go]; refine ⟨dc0, ?_⟩)
    refine Goes.step rfl (fun _ h₁ => ?_); replace hF := lk_rely hF h₁; clear h₁; (rw [stepG_region]; simp only [goes_go, List.size_toArray, List.length_cons, List.length_nil, Nat.reduceAdd, Nat.zero_add, List.range, List.range.loop]; refine ⟨dc0, ?_⟩)
    refine Goes.step rfl (fun _ h₁ => ?_); replace hF := lk_rely hF h₁; clear h₁; (refine goes_oper_k rfl rfl (by k_ne) (fun K hK => ?_); go_simp; refine hK _ _ ⟨?_, ?_⟩; (focus (rw [listed_nil (by simp [go_sem, *])]; exact dc0)); clear hK K; try w_num)
    refine Goes.step rfl (fun _ h₁ => ?_); replace hF := lk_rely hF h₁; clear h₁; (rw [stepG_region_end]; simp only [goes_go]; refine ⟨dc0, ?_⟩)
    refine Goes.step rfl (fun _ h₁ => ?_); replace hF := lk_rely hF h₁; clear h₁; (rw [stepG_seq]; simp only [goes_go]; refine ⟨dc0, ?_⟩)
    refine Goes.step rfl (fun _ h₁ => ?_); replace hF := lk_rely hF h₁; clear h₁; (rw [stepG_region]; simp only [goes_go, List.size_toArray, List.length_cons, List.length_nil, Nat.reduceAdd, Nat.zero_add, List.range, List.range.loop]; refine ⟨dc0, ?_⟩)
    refine Goes.step rfl (fun _ h₁ => ?_); replace hF := lk_rely hF h₁; clear h₁; (refine goes_oper_k rfl rfl (by k_ne) (fun K hK => ?_); go_simp; refine hK _ _ ⟨?_, ?_⟩; (focus (rw [listed_nil (by simp [go_sem, *])]; exact dc0)); clear hK K; try w_num)
    refine Goes.step rfl (fun _ h₁ => ?_); replace hF := lk_rely hF h₁; clear h₁; (refine goes_oper_k rfl rfl (by k_ne) (fun K hK => ?_); go_simp; refine hK _ _ ⟨?_, ?_⟩; (focus (rw [listed_nil (by simp [go_sem, *])]; exact dc0)); clear hK K; try w_num)
    refine Goes.step rfl (fun _ h₁ => ?_); replace hF := lk_rely hF h₁; clear h₁; (refine goes_oper_k rfl rfl (by k_ne) (fun K hK => ?_); go_simp; refine hK _ _ ⟨?_, ?_⟩; (focus (rw [listed_nil (by simp [go_sem, *])]; exact dc0)); clear hK K; try w_num)
    refine Goes.stop (fun w₂ h₁ => ?_)
    replace hF := lk_rely hF h₁
    clear h₁
    refine ⟨rfl, fun hw => ⟨_, stepG_load_atomic rfl rfl (by k_ne) rfl H.f_loadU64 (x_loadU64_n L) (x_loadU64_b L) (x_loadU64_x L) .u64 (x_loadU64_f L) rfl hw.cellSt, 40, ?_⟩⟩
    clear hw
    walk_nrm
    refine Goes.step rfl (fun _ h₁ => ?_); replace hF := lk_rely hF h₁; clear h₁; (refine goes_oper_k rfl rfl (by k_ne) (fun K hK => ?_); go_simp; refine hK _ _ ⟨?_, ?_⟩; (focus (rw [listed_nil (by simp [go_sem, *])]; exact dc0)); clear hK K; try w_num)
    refine Goes.step rfl (fun _ h₁ => ?_); replace hF := lk_rely hF h₁; clear h₁; (rw [stepG_region_end]; simp only [goes_go]; refine ⟨dc0, ?_⟩)
    refine Goes.step rfl (fun _ h₁ => ?_); replace hF := lk_rely hF h₁; clear h₁; (rw [stepG_ret']; simp only [goes_go]; refine ⟨dc0, ?_⟩)
    refine Goes.step rfl (fun _ h₁ => ?_); replace hF := lk_rely hF h₁; clear h₁; (refine goes_leave1 rfl rfl H.f_uLoad rfl ⟨dc0, ?_⟩; walk_nrm)
    refine Goes.step rfl (fun _ h₁ => ?_); replace hF := lk_rely hF h₁; clear h₁; (refine goes_oper_k rfl rfl (by k_ne) (fun K hK => ?_); go_simp; refine hK _ _ ⟨?_, ?_⟩; (focus (rw [listed_nil (by simp [go_sem, *])]; exact dc0)); clear hK K; try w_num)
    refine Goes.step rfl (fun _ h₁ => ?_); replace hF := lk_rely hF h₁; clear h₁; (refine goes_oper_k rfl rfl (by k_ne) (fun K hK => ?_); go_simp; refine hK _ _ ⟨?_, ?_⟩; (focus (rw [listed_nil (by simp [go_sem, *])]; exact dc0)); clear hK K; try w_num)
    refine Goes.step rfl (fun _ h₁ => ?_); replace hF := lk_rely hF h₁; clear h₁; (rw [stepG_region_end]; simp only [goes_go]; refine ⟨dc0, ?_⟩)
    refine Goes.step rfl (fun _ h₁ => ?_); replace hF := lk_rely hF h₁; clear h₁; (rw [stepG_cond (t := false) rfl]; simp only [goes_go, if_true, if_false, Bool.false_eq_true, ↓reduceIte]; refine ⟨dc0, ?_⟩)
    refine Goes.step rfl (fun _ h₁ => ?_); replace hF := lk_rely hF h₁; clear h₁; (rw [stepG_skip]; simp only [goes_go]; refine ⟨dc0, ?_⟩)
    refine Goes.step rfl (fun _ h₁ => ?_); replace hF := lk_rely hF h₁; clear h₁; (rw [stepG_seq]; simp only [goes_go]; refine ⟨dc0, ?_⟩)
    refine Goes.step rfl (fun _ h₁ => ?_); replace hF := lk_rely hF h₁; clear h₁; (rw [stepG_region]; simp only [goes_go, List.size_toArray, List.length_cons, List.length_nil, Nat.reduceAdd, Nat.zero_add, List.range, List.range.loop]; refine ⟨dc0, ?_⟩)
    refine Goes.step rfl (fun _ h₁ => ?_); replace hF := lk_rely hF h₁; clear h₁; (refine goes_oper_k rfl rfl (by k_ne) (fun K hK => ?_); go_simp; refine hK _ _ ⟨?_, ?_⟩; (focus (rw [listed_nil (by simp [go_sem, *])]; exact dc0)); clear hK K; try w_num)
    refine Goes.step rfl (fun _ h₁ => ?_); replace hF := lk_rely hF h₁; clear h₁; (refine goes_oper_k rfl rfl (by k_ne) (fun K hK => ?_); go_simp; refine hK _ _ ⟨?_, ?_⟩; (focus (rw [listed_nil (by simp [go_sem, *])]; exact dc0)); clear hK K; try w_num)
    refine Goes.step rfl (fun _ h₁ => ?_); replace hF := lk_rely hF h₁; clear h₁; (refine goes_oper_k rfl rfl (by k_ne) (fun K hK => ?_); go_simp; refine hK _ _ ⟨?_, ?_⟩; (focus (rw [listed_nil (by simp [go_sem, *])]; exact dc0)); clear hK K; try w_num)
    refine Goes.step rfl (fun _ h₁ => ?_); replace hF := lk_rely hF h₁; clear h₁; (refine goes_call rfl rfl (by k_ne) rfl H.f_uStore (nm_uStore L) rfl ⟨dc0, ?_⟩; walk_nrmf uStoreFn)
    refine Goes.step rfl (fun _ h₁ => ?_); replace hF := lk_rely hF h₁; clear h₁; (rw [stepG_region]; simp only [goes_go, List.size_toArray, List.length_cons, List.length_nil, Nat.reduceAdd, Nat.zero_add, List.range, List.range.loop]; refine ⟨dc0, ?_⟩)
    refine Goes.step rfl (fun _ h₁ => ?_); replace hF := lk_rely hF h₁; clear h₁; (refine goes_oper_k rfl rfl (by k_ne) (fun K hK => ?_); go_simp; refine hK _ _ ⟨?_, ?_⟩; (focus (rw [listed_nil (by simp [go_sem, *])]; exact dc0)); clear hK K; try w_num)
    refine Goes.step rfl (fun _ h₁ => ?_); replace hF := lk_rely hF h₁; clear h₁; (refine goes_oper_k rfl rfl (by k_ne) (fun K hK => ?_); go_simp; refine hK _ _ ⟨?_, ?_⟩; (focus (rw [listed_nil (by simp [go_sem, *])]; exact dc0)); clear hK K; try w_num)
    refine Goes.step rfl (fun _ h₁ => ?_); replace hF := lk_rely hF h₁; clear h₁; (refine goes_oper_k rfl rfl (by k_ne) (fun K hK => ?_); go_simp; refine hK _ _ ⟨?_, ?_⟩; (focus (rw [listed_nil (by simp [go_sem, *])]; exact dc0)); clear hK K; try w_num)
    refine Goes.step rfl (fun _ h₁ => ?_); replace hF := lk_rely hF h₁; clear h₁; (refine goes_oper_k rfl rfl (by k_ne) (fun K hK => ?_); go_simp; refine hK _ _ ⟨?_, ?_⟩; (focus (rw [listed_nil (by simp [go_sem, *])]; exact dc0)); clear hK K; try w_num)
    refine Goes.stop (fun w₃ h₁ => ?_)
    replace hF := lk_rely hF h₁
    clear h₁
    refine ⟨rfl, fun hw => ⟨_, stepG_store_atomic rfl rfl (by k_ne) rfl H.f_storeU64 (x_storeU64_n L) (x_storeU64_b L) (x_storeU64_x L) (x_storeU64_f L) rfl rfl hw.cellSt (hw.thaw 0), 50, ?_⟩⟩
    replace hF : E.live (w₃.setCell (stA E.Wg) (.int .u64 0)) := live_set HG hF hw 0
    clear hw
    walk_nrm
    refine Goes.step rfl (fun _ h₁ => ?_); replace hF := lk_rely hF h₁; clear h₁; (rw [stepG_region_end]; simp only [goes_go]; refine ⟨dc0, ?_⟩)
    refine Goes.step rfl (fun _ h₁ => ?_); replace hF := lk_rely hF h₁; clear h₁; (rw [stepG_end]; simp only [goes_go]; refine ⟨dc0, ?_⟩)
    refine Goes.step rfl (fun _ h₁ => ?_); replace hF := lk_rely hF h₁; clear h₁; (refine goes_leave0 rfl rfl H.f_uStore rfl ⟨dc0, ?_⟩; walk_nrm)
    refine Goes.step rfl (fun _ h₁ => ?_); replace hF := lk_rely hF h₁; clear h₁; (rw [stepG_region_end]; simp only [goes_go]; refine ⟨dc0, ?_⟩)
    refine Goes.step rfl (fun _ h₁ => ?_); replace hF := lk_rely hF h₁; clear h₁; (rw [stepG_seq]; simp only [goes_go]; refine ⟨dc0, ?_⟩)
    refine Goes.step rfl (fun _ h₁ => ?_); replace hF := lk_rely hF h₁; clear h₁; (rw [stepG_seq]; simp only [goes_go]; refine ⟨dc0, ?_⟩)
    refine Goes.step rfl (fun _ h₁ => ?_); replace hF := lk_rely hF h₁; clear h₁; (rw [stepG_region]; simp only [goes_go, List.size_toArray, List.length_cons, List.length_nil, Nat.reduceAdd, Nat.zero_add, List.range, List.range.loop]; refine ⟨dc0, ?_⟩)
    refine Goes.step rfl (fun _ h₁ => ?_); replace hF := lk_rely hF h₁; clear h₁; (refine goes_oper_k rfl rfl (by k_ne) (fun K hK => ?_); go_simp; refine hK _ _ ⟨?_, ?_⟩; (focus (rw [listed_nil (by simp [go_sem, *])]; exact dc0)); clear hK K; try w_num)
    refine Goes.step rfl (fun _ h₁ => ?_); replace hF := lk_rely hF h₁; clear h₁; (rw [stepG_region_end]; simp only [goes_go]; refine ⟨dc0, ?_⟩)
    refine Goes.step rfl (fun _ h₁ => ?_); replace hF := lk_rely hF h₁; clear h₁; (rw [stepG_cond (t := false) rfl]; simp only [goes_go, if_true, if_false, Bool.false_eq_true, ↓reduceIte]; refine ⟨dc0, ?_⟩)
    refine Goes.step rfl (fun _ h₁ => ?_); replace hF := lk_rely hF h₁; clear h₁; (rw [stepG_skip]; simp only [goes_go]; refine ⟨dc0, ?_⟩)
    refine Goes.step rfl (fun _ h₁ => ?_); replace hF := lk_rely hF h₁; clear h₁; (rw [stepG_block]; simp only [goes_go]; refine ⟨dc0, ?_⟩)
    refine Goes.step rfl (fun _ h₁ => ?_); replace hF := lk_rely hF h₁; clear h₁; (rw [stepG_loop]; simp only [goes_go]; refine ⟨dc0, ?_⟩)
    refine Goes.step rfl (fun _ h₁ => ?_); replace hF := lk_rely hF h₁; clear h₁; (rw [stepG_seq]; simp only [goes_go]; refine ⟨dc0, ?_⟩)
    refine Goes.step rfl (fun _ h₁ => ?_); replace hF := lk_rely hF h₁; clear h₁; (rw [stepG_seq]; simp only [goes_go]; refine ⟨dc0, ?_⟩)
    refine Goes.step rfl (fun _ h₁ => ?_); replace hF := lk_rely hF h₁; clear h₁; (rw [stepG_region]; simp only [goes_go, List.size_toArray, List.length_cons, List.length_nil, Nat.reduceAdd, Nat.zero_add, List.range, List.range.loop]; refine ⟨dc0, ?_⟩)
    refine Goes.step rfl (fun _ h₁ => ?_); replace hF := lk_rely hF h₁; clear h₁; (refine goes_oper_k rfl rfl (by k_ne) (fun K hK => ?_); go_simp; refine hK _ _ ⟨?_, ?_⟩; (focus (rw [listed_nil (by simp [go_sem, *])]; exact dc0)); clear hK K; try w_num)
    refine Goes.step rfl (fun _ h₁ => ?_); replace hF := lk_rely hF h₁; clear h₁; (refine goes_oper_k rfl rfl (by k_ne) (fun K hK => ?_); go_simp; refine hK _ _ ⟨?_, ?_⟩; (focus (rw [listed_nil (by simp [go_sem, *])]; exact dc0)); clear hK K; try w_num)
    refine Goes.step rfl (fun _ h₁ => ?_); replace hF := lk_rely hF h₁; clear h₁; (rw [stepG_region_end]; simp only [goes_go]; refine ⟨dc0, ?_⟩)
    refine Goes.step rfl (fun _ h₁ => ?_); replace hF := lk_rely hF h₁; clear h₁; (rw [stepG_cond (t := true) rfl]; simp only [goes_go, if_true, if_false, Bool.false_eq_true, ↓reduceIte]; refine ⟨dc0, ?_⟩)
    refine Goes.step rfl (fun _ h₁ => ?_); replace hF := lk_rely hF h₁; clear h₁; (rw [stepG_skip]; simp only [goes_go]; refine ⟨dc0, ?_⟩)
    refine Goes.step rfl (fun _ h₁ => ?_); replace hF := lk_rely hF h₁; clear h₁; (rw [stepG_seq]; simp only [goes_go]; refine ⟨dc0, ?_⟩)
    refine Goes.step rfl (fun _ h₁ => ?_); replace hF := lk_rely hF h₁; clear h₁; (rw [stepG_block]; simp only [goes_go]; refine ⟨dc0, ?_⟩)
    refine Goes.step rfl (fun _ h₁ => ?_); replace hF := lk_rely hF h₁; clear h₁; (rw [stepG_region]; simp only [goes_go, List.size_toArray, List.length_cons, List.length_nil, Nat.reduceAdd, Nat.zero_add, List.range, List.range.loop]; refine ⟨dc0, ?_⟩)
    refine Goes.step rfl (fun _ h₁ => ?_); replace hF := lk_rely hF h₁; clear h₁; (refine goes_oper_k rfl rfl (by k_ne) (fun K hK => ?_); go_simp; refine hK _ _ ⟨?_, ?_⟩; (focus (rw [listed_nil (by simp [go_sem, *])]; exact dc0)); clear hK K; try w_num)
    refine Goes.step rfl (fun _ h₁ => ?_); replace hF := lk_rely hF h₁; clear h₁; (refine goes_oper_k rfl rfl (by k_ne) (fun K hK => ?_); go_simp; refine hK _ _ ⟨?_, ?_⟩; (focus (rw [listed_nil (by simp [go_sem, *])]; exact dc0)); clear hK K; try w_num)
    refine Goes.step rfl (fun _ h₁ => ?_); replace hF := lk_rely hF h₁; clear h₁; (refine goes_oper_k rfl rfl (by k_ne) (fun K hK => ?_); go_simp; refine hK _ _ ⟨?_, ?_⟩; (focus (rw [listed_nil (by simp [go_sem, *])]; exact dc0)); clear hK K; try w_num)
    refine Goes.stop (fun w₄ h₁ => ?_)
    replace hF := lk_rely hF h₁
    clear h₁
    refine ⟨rfl, mayWake_entry rfl rfl H.f_semrelease (x_semrelease_b L), fun hw => ⟨_, (stepG_semrelease rfl rfl (by k_ne) rfl H.f_semrelease (x_semrelease_n L) (x_semrelease_b L) (x_semrelease_x L) (x_semrelease_f L) (by simp [Act.eval, smA]) hw.cellSm (hw.thaw 1)).trans (by rfl), qt + 19, ?_⟩⟩
    clear hw hF
    walk_nrm
    (refine QuitsD.ctl rfl (fun w => by rw [stepG_region_end]) ?_)
    (refine QuitsD.ctl rfl (fun w => by rw [stepG_inBlock]) ?_)
    (refine QuitsD.ctl rfl (fun w => by rw [stepG_region]) ?_; simp only [List.size_toArray, List.length_cons, List.length_nil, Nat.reduceAdd, Nat.zero_add, List.range, List.range.loop])
    (refine QuitsD.value _ rfl rfl (by k_ne) (fun _ => by go_simp; first | rfl | (try w_num; rfl)) (fun _ => by simp [go_sem, *]) ?_; walk_nrm; try w_num)
    (refine QuitsD.value _ rfl rfl (by k_ne) (fun _ => by go_simp; first | rfl | (try w_num; rfl)) (fun _ => by simp [go_sem, *]) ?_; walk_nrm; try w_num)
    (refine QuitsD.value _ rfl rfl (by k_ne) (fun _ => by go_simp; first | rfl | (try w_num; rfl)) (fun _ => by simp [go_sem, *]) ?_; walk_nrm; try w_num)
    (refine QuitsD.ctl rfl (fun w => by rw [stepG_region_end]) ?_)
    (refine QuitsD.ctl rfl (fun w => by rw [stepG_inLoop]) ?_)
    (refine QuitsD.ctl rfl (fun w => by rw [stepG_seq]) ?_)
    (refine QuitsD.ctl rfl (fun w => by rw [stepG_seq]) ?_)
    (refine QuitsD.ctl rfl (fun w => by rw [stepG_region]) ?_; simp only [List.size_toArray, List.length_cons, List.length_nil, Nat.reduceAdd, Nat.zero_add, List.range, List.range.loop])
    (refine QuitsD.value _ rfl rfl (by k_ne) (fun _ => by go_simp; first | rfl | (try w_num; rfl)) (fun _ => by simp [go_sem, *]) ?_; walk_nrm; try w_num)
    (refine QuitsD.value _ rfl rfl (by k_ne) (fun _ => by go_simp; first | rfl | (try w_num; rfl)) (fun _ => by simp [go_sem, *]) ?_; walk_nrm; try w_num)
    (refine QuitsD.ctl rfl (fun w => by rw [stepG_region_end]) ?_)
    (refine QuitsD.ctl rfl (fun w => by rw [stepG_cond (t := false) rfl]) ?_; simp only [if_true, if_false, Bool.false_eq_true, ↓reduceIte])
    refine QuitsD.ctl rfl (fun w => stepG_exit rfl) ?_
    refine QuitsD.ctl rfl (fun w => by rw [stepG_end]) ?_
    refine QuitsD.unwind_mark .enable rfl (by simp) rfl H.f_enable (x_enable_n L) (x_enable_b L) (x_enable_x L) (x_enable_f L) ?_
    simp only [deafBehind_enable1]
    refine QuitsD.leave0 rfl rfl H.f_add rfl ?_
    walk_nrm
    exact hT
  · replace hw : WgAt E.ty E.Wg w₁ (((v : Nat) + 1) * KK + 0) 0 := by simpa using hw
    have z : ((v : Nat) : Int) * KK + ((0 : Nat) : Int) = (v : Int) * KK + 0 := by simp
    rw [z]
    have hv0 : 0 < v := by omega
    have eS : IntKind.u64.wrap (((v : Nat) + 1) * KK + 0 + 18446744069414584320) = (v : Int) * KK + 0 := by rw [IntKind.wrap_u64]; simp only [KK]; omega
    obtain ⟨S, hS⟩ : ∃ S : Int, S = (v : Int) * KK + 0 := ⟨_, rfl⟩
    rw [← hS] at eS ⊢
    have a1 : S / 4294967296 = (v : Int) := by rw [hS]; simp only [KK]; omega
    have a2 : 0 ≤ S ∧ S < 9223372036854775808 := by rw [hS]; simp only [KK]; omega
    have b1 : bits .and .u64 S 2147483648 = 0 := by rw [hS]; have := st_flag v 0 (by omega) (by omega); simpa [KK] using this
    have b2 : bits .and .u64 S 2147483647 = 0 := by rw [hS]; have := st_waiters v 0 (by omega) (by omega); simpa [KK] using this
    have c1 : IntKind.i32.wrap (v : Int) = (v : Int) := by rw [IntKind.wrap_i32]; omega
    have q3 : decide ((v : Int) < 0) = false := decide_eq_false (by omega)
    have q4 : decide (0 < (v : Int)) = true := decide_eq_true (by omega)
    have q5 : ((v : Int) == 0) = false := by simp; omega
    have q6 : decide ((v : Int) = 0) = false := decide_eq_false (by omega)
    clear hS z
    refine ⟨_, (stepG_add_atomic rfl rfl (by k_ne) rfl H.f_addU64 (x_addU64_n L) (x_addU64_b L) (x_addU64_x L) .u64 (x_addU64_f L) rfl rfl hw.cellSt (hw.thaw 0)).trans (by rw [eS]; rfl), fun hl => absurd hl.1 (by omega), fun _ => ⟨qt + 89, ?_⟩⟩
    clear hw
    walk_nrm
    (refine QuitsD.value _ rfl rfl (by k_ne) (fun _ => by go_simp; first | rfl | (try w_num; rfl)) (fun _ => by simp [go_sem, *]) ?_; walk_nrm; try w_num)
    (refine QuitsD.ctl rfl (fun w => by rw [stepG_region_end]) ?_)
    (refine QuitsD.ctl rfl (fun w => by rw [stepG_ret']) ?_)
    (refine QuitsD.leave1 rfl rfl H.f_uAdd rfl ?_; walk_nrm)
    (refine QuitsD.value _ rfl rfl (by k_ne) (fun _ => by go_simp; first | rfl | (try w_num; rfl)) (fun _ => by simp [go_sem, *]) ?_; walk_nrm; try w_num)
    (refine QuitsD.ctl rfl (fun w => by rw [stepG_region_end]) ?_)
    (refine QuitsD.ctl rfl (fun w => by rw [stepG_seq]) ?_)
    (refine QuitsD.ctl rfl (fun w => by rw [stepG_seq]) ?_)
    (refine QuitsD.ctl rfl (fun w => by rw [stepG_region]) ?_; simp only [List.size_toArray, List.length_cons, List.length_nil, Nat.reduceAdd, Nat.zero_add, List.range, List.range.loop])
    (refine QuitsD.value _ rfl rfl (by k_ne) (fun _ => by go_simp; first | rfl | (try w_num; rfl)) (fun _ => by simp [go_sem, *]) ?_; walk_nrm; try w_num)
    (refine QuitsD.value _ rfl rfl (by k_ne) (fun _ => by go_simp; first | rfl | (try w_num; rfl)) (fun _ => by simp [go_sem, *]) ?_; walk_nrm; try w_num)
    (refine QuitsD.value _ rfl rfl (by k_ne) (fun _ => by go_simp; first | rfl | (try w_num; rfl)) (fun _ => by simp [go_sem, *]) ?_; walk_nrm; try w_num)
    (refine QuitsD.value _ rfl rfl (by k_ne) (fun _ => by go_simp; first | rfl | (try w_num; rfl)) (fun _ => by simp [go_sem, *]) ?_; walk_nrm; try w_num)
    (refine QuitsD.unwanted rfl rfl ?_; walk_nrm)
    (refine QuitsD.unwanted rfl rfl ?_; walk_nrm)
    (refine QuitsD.value _ rfl rfl (by k_ne) (fun _ => by go_simp; first | rfl | (try w_num; rfl)) (fun _ => by simp [go_sem, *]) ?_; walk_nrm; try w_num)
    (refine QuitsD.ctl rfl (fun w => by rw [stepG_region_end]) ?_)
    (refine QuitsD.ctl rfl (fun w => by rw [stepG_cond (t := false) rfl]) ?_; simp only [if_true, if_false, Bool.false_eq_true, ↓reduceIte])
    (refine QuitsD.ctl rfl (fun w => by rw [stepG_skip]) ?_)
    (refine QuitsD.ctl rfl (fun w => by rw [stepG_seq]) ?_)
    (refine QuitsD.ctl rfl (fun w => by rw [stepG_region]) ?_; simp only [List.size_toArray, List.length_cons, List.length_nil, Nat.reduceAdd, Nat.zero_add, List.range, List.range.loop])
    (refine QuitsD.value _ rfl rfl (by k_ne) (fun _ => by go_simp; first | rfl | (try w_num; rfl)) (fun _ => by simp [go_sem, *]) ?_; walk_nrm; try w_num)
    (refine QuitsD.value _ rfl rfl (by k_ne) (fun _ => by go_simp; first | rfl | (try w_num; rfl)) (fun _ => by simp [go_sem, *]) ?_; walk_nrm; try w_num)
    (refine QuitsD.value _ rfl rfl (by k_ne) (fun _ => by go_simp; first | rfl | (try w_num; rfl)) (fun _ => by simp [go_sem, *]) ?_; walk_nrm; try w_num)
    (refine QuitsD.value _ rfl rfl (by k_ne) (fun _ => by go_simp; first | rfl | (try w_num; rfl)) (fun _ => by simp [go_sem, *]) ?_; walk_nrm; try w_num)
    (refine QuitsD.ctl rfl (fun w => by rw [stepG_region_end]) ?_)
    (refine QuitsD.ctl rfl (fun w => by rw [stepG_seq]) ?_)
    (refine QuitsD.ctl rfl (fun w => by rw [stepG_region]) ?_; simp only [List.size_toArray, List.length_cons, List.length_nil, Nat.reduceAdd, Nat.zero_add, List.range, List.range.loop])
    (refine QuitsD.value _ rfl rfl (by k_ne) (fun _ => by go_simp; first | rfl | (try w_num; rfl)) (fun _ => by simp [go_sem, *]) ?_; walk_nrm; try w_num)
    (refine QuitsD.value _ rfl rfl (by k_ne) (fun _ => by go_simp; first | rfl | (try w_num; rfl)) (fun _ => by simp [go_sem, *]) ?_; walk_nrm; try w_num)
    (refine QuitsD.value _ rfl rfl (by k_ne) (fun _ => by go_simp; first | rfl | (try w_num; rfl)) (fun _ => by simp [go_sem, *]) ?_; walk_nrm; try w_num)
    (refine QuitsD.value _ rfl rfl (by k_ne) (fun _ => by go_simp; first | rfl | (try w_num; rfl)) (fun _ => by simp [go_sem, *]) ?_; walk_nrm; try w_num)
    (refine QuitsD.ctl rfl (fun w => by rw [stepG_region_end]) ?_)
    (refine QuitsD.ctl rfl (fun w => by rw [stepG_seq]) ?_)
    (refine QuitsD.ctl rfl (fun w => by rw [stepG_seq]) ?_)
    (refine QuitsD.ctl rfl (fun w => by rw [stepG_region]) ?_; simp only [List.size_toArray, List.length_cons, List.length_nil, Nat.reduceAdd, Nat.zero_add, List.range, List.range.loop])
    (refine QuitsD.value _ rfl rfl (by k_ne) (fun _ => by go_simp; first | rfl | (try w_num; rfl)) (fun _ => by simp [go_sem, *]) ?_; walk_nrm; try w_num)
    (refine QuitsD.value _ rfl rfl (by k_ne) (fun _ => by go_simp; first | rfl | (try w_num; rfl)) (fun _ => by simp [go_sem, *]) ?_; walk_nrm; try w_num)
    (refine QuitsD.value _ rfl rfl (by k_ne) (fun _ => by go_simp; first | rfl | (try w_num; rfl)) (fun _ => by simp [go_sem, *]) ?_; walk_nrm; try w_num)
    (refine QuitsD.value _ rfl rfl (by k_ne) (fun _ => by go_simp; first | rfl | (try w_num; rfl)) (fun _ => by simp [go_sem, *]) ?_; walk_nrm; try w_num)
    (refine QuitsD.value _ rfl rfl (by k_ne) (fun _ => by go_simp; first | rfl | (try w_num; rfl)) (fun _ => by simp [go_sem, *]) ?_; walk_nrm; try w_num)
    (refine QuitsD.unwanted rfl rfl ?_; walk_nrm)
    (refine QuitsD.unwanted rfl rfl ?_; walk_nrm)
    (refine QuitsD.unwanted rfl rfl ?_; walk_nrm)
    (refine QuitsD.unwanted rfl rfl ?_; walk_nrm)
    (refine QuitsD.value _ rfl rfl (by k_ne) (fun _ => by go_simp; first | rfl | (try w_num; rfl)) (fun _ => by simp [go_sem, *]) ?_; walk_nrm; try w_num)
    (refine QuitsD.ctl rfl (fun w => by rw [stepG_region_end]) ?_)
    (refine QuitsD.ctl rfl (fun w => by rw [stepG_cond (t := false) rfl]) ?_; simp only [if_true, if_false, Bool.false_eq_true, ↓reduceIte])
    (refine QuitsD.ctl rfl (fun w => by rw [stepG_skip]) ?_)
    (refine QuitsD.ctl rfl (fun w => by rw [stepG_seq]) ?_)
    (refine QuitsD.ctl rfl (fun w => by rw [stepG_seq]) ?_)
    (refine QuitsD.ctl rfl (fun w => by rw [stepG_region]) ?_; simp only [List.size_toArray, List.length_cons, List.length_nil, Nat.reduceAdd, Nat.zero_add, List.range, List.range.loop])
    (refine QuitsD.value _ rfl rfl (by k_ne) (fun _ => by go_simp; first | rfl | (try w_num; rfl)) (fun _ => by simp [go_sem, *]) ?_; walk_nrm; try w_num)
    (refine QuitsD.value _ rfl rfl (by k_ne) (fun _ => by go_simp; first | rfl | (try w_num; rfl)) (fun _ => by simp [go_sem, *]) ?_; walk_nrm; try w_num)
    (refine QuitsD.ctl rfl (fun w => by rw [stepG_region_end]) ?_)
    (refine QuitsD.ctl rfl (fun w => by rw [stepG_cond (t := false) rfl]) ?_; simp only [if_true, if_false, Bool.false_eq_true, ↓reduceIte])
    (refine QuitsD.ctl rfl (fun w => by rw [stepG_skip]) ?_)
    (refine QuitsD.ctl rfl (fun w => by rw [stepG_seq]) ?_)
    (refine QuitsD.ctl rfl (fun w => by rw [stepG_seq]) ?_)
    (refine QuitsD.ctl rfl (fun w => by rw [stepG_region]) ?_; simp only [List.size_toArray, List.length_cons, List.length_nil, Nat.reduceAdd, Nat.zero_add, List.range, List.range.loop])
    (refine QuitsD.value _ rfl rfl (by k_ne) (fun _ => by go_simp; first | rfl | (try w_num; rfl)) (fun _ => by simp [go_sem, *]) ?_; walk_nrm; try w_num)
    (refine QuitsD.value _ rfl rfl (by k_ne) (fun _ => by go_simp; first | rfl | (try w_num; rfl)) (fun _ => by simp [go_sem, *]) ?_; walk_nrm; try w_num)
    (refine QuitsD.value _ rfl rfl (by k_ne) (fun _ => by go_simp; first | rfl | (try w_num; rfl)) (fun _ => by simp [go_sem, *]) ?_; walk_nrm; try w_num)
    (refine QuitsD.unwanted rfl rfl ?_; walk_nrm)
    (refine QuitsD.unwanted rfl rfl ?_; walk_nrm)
    (refine QuitsD.value _ rfl rfl (by k_ne) (fun _ => by go_simp; first | rfl | (try w_num; rfl)) (fun _ => by simp [go_sem, *]) ?_; walk_nrm; try w_num)
    (refine QuitsD.value _ rfl rfl (by k_ne) (fun _ => by go_simp; first | rfl | (try w_num; rfl)) (fun _ => by simp [go_sem, *]) ?_; walk_nrm; try w_num)
    (refine QuitsD.unwanted rfl rfl ?_; walk_nrm)
    (refine QuitsD.unwanted rfl rfl ?_; walk_nrm)
    (refine QuitsD.unwanted rfl rfl ?_; walk_nrm)
    (refine QuitsD.unwanted rfl rfl ?_; walk_nrm)
    (refine QuitsD.value _ rfl rfl (by k_ne) (fun _ => by go_simp; first | rfl | (try w_num; rfl)) (fun _ => by simp [go_sem, *]) ?_; walk_nrm; try w_num)
    (refine QuitsD.ctl rfl (fun w => by rw [stepG_region_end]) ?_)
    (refine QuitsD.ctl rfl (fun w => by rw [stepG_cond (t := false) rfl]) ?_; simp only [if_true, if_false, Bool.false_eq_true, ↓reduceIte])
    (refine QuitsD.ctl rfl (fun w => by rw [stepG_skip]) ?_)
    (refine QuitsD.ctl rfl (fun w => by rw [stepG_seq]) ?_)
    (refine QuitsD.ctl rfl (fun w => by rw [stepG_seq]) ?_)
    (refine QuitsD.ctl rfl (fun w => by rw [stepG_region]) ?_; simp only [List.size_toArray, List.length_cons, List.length_nil, Nat.reduceAdd, Nat.zero_add, List.range, List.range.loop])
    (refine QuitsD.value _ rfl rfl (by k_ne) (fun _ => by go_simp; first | rfl | (try w_num; rfl)) (fun _ => by simp [go_sem, *]) ?_; walk_nrm; try w_num)
    (refine QuitsD.value _ rfl rfl (by k_ne) (fun _ => by go_simp; first | rfl | (try w_num; rfl)) (fun _ => by simp [go_sem, *]) ?_; walk_nrm; try w_num)
    (refine QuitsD.value _ rfl rfl (by k_ne) (fun _ => by go_simp; first | rfl | (try w_num; rfl)) (fun _ => by simp [go_sem, *]) ?_; walk_nrm; try w_num)
    (refine QuitsD.unwanted rfl rfl ?_; walk_nrm)
    (refine QuitsD.unwanted rfl rfl ?_; walk_nrm)
    (refine QuitsD.value _ rfl rfl (by k_ne) (fun _ => by go_simp; first | rfl | (try w_num; rfl)) (fun _ => by simp [go_sem, *]) ?_; walk_nrm; try w_num)
    (refine QuitsD.ctl rfl (fun w => by rw [stepG_region_end]) ?_)
    (refine QuitsD.ctl rfl (fun w => by rw [stepG_cond (t := true) rfl]) ?_; simp only [if_true, if_false, Bool.false_eq_true, ↓reduceIte])
    (refine QuitsD.ctl rfl (fun w => by rw [stepG_ret']) ?_)
    refine QuitsD.unwind_mark .enable rfl (by simp) rfl H.f_enable (x_enable_n L) (x_enable_b L) (x_enable_x L) (x_enable_f L) ?_
    simp only [deafBehind_enable1]
    refine QuitsD.leave0 rfl rfl H.f_add rfl ?_
    walk_nrm
    exact hT
  · replace hw : WgAt E.ty E.Wg w₁ (((v : Nat) + 1) * KK + 1) 0 := by simpa using hw
    have z : ((v : Nat) : Int) * KK + ((1 : Nat) : Int) = (v : Int) * KK + 1 := by simp
    rw [z]
    have hv0 : 0 < v := by omega
    have eS : IntKind.u64.wrap (((v : Nat) + 1) * KK + 1 + 18446744069414584320) = (v : Int) * KK + 1 := by rw [IntKind.wrap_u64]; simp only [KK]; omega
    obtain ⟨S, hS⟩ : ∃ S : Int, S = (v : Int) * KK + 1 := ⟨_, rfl⟩
    rw [← hS] at eS ⊢
    have a1 : S / 4294967296 = (v : Int) := by rw [hS]; simp only [KK]; omega
    have a2 : 0 ≤ S ∧ S < 9223372036854775808 := by rw [hS]; simp only [KK]; omega
    have b1 : bits .and .u64 S 2147483648 = 0 := by rw [hS]; have := st_flag v 1 (by omega) (by omega); simpa [KK] using this
    have b2 : bits .and .u64 S 2147483647 = 1 := by rw [hS]; have := st_waiters v 1 (by omega) (by omega); simpa [KK] using this
    have c1 : IntKind.i32.wrap (v : Int) = (v : Int) := by rw [IntKind.wrap_i32]; omega
    have q3 : decide ((v : Int) < 0) = false := decide_eq_false (by omega)
    have q4 : decide (0 < (v : Int)) = true := decide_eq_true (by omega)
    have q5 : ((v : Int) == 0) = false := by simp; omega
    have q6 : decide ((v : Int) = 0) = false := decide_eq_false (by omega)
    clear hS z
    refine ⟨_, (stepG_add_atomic rfl rfl (by k_ne) rfl H.f_addU64 (x_addU64_n L) (x_addU64_b L) (x_addU64_x L) .u64 (x_addU64_f L) rfl rfl hw.cellSt (hw.thaw 0)).trans (by rw [eS]; rfl), fun hl => absurd hl.1 (by omega), fun _ => ⟨qt + 89, ?_⟩⟩
    clear hw
    walk_nrm
    (refine QuitsD.value _ rfl rfl (by k_ne) (fun _ => by go_simp; first | rfl | (try w_num; rfl)) (fun _ => by simp [go_sem, *]) ?_; walk_nrm; try w_num)
    (refine QuitsD.ctl rfl (fun w => by rw [stepG_region_end]) ?_)
    (refine QuitsD.ctl rfl (fun w => by rw [stepG_ret']) ?_)
    (refine QuitsD.leave1 rfl rfl H.f_uAdd rfl ?_; walk_nrm)
    (refine QuitsD.value _ rfl rfl (by k_ne) (fun _ => by go_simp; first | rfl | (try w_num; rfl)) (fun _ => by simp [go_sem, *]) ?_; walk_nrm; try w_num)
    (refine QuitsD.ctl rfl (fun w => by rw [stepG_region_end]) ?_)
    (refine QuitsD.ctl rfl (fun w => by rw [stepG_seq]) ?_)
    (refine QuitsD.ctl rfl (fun w => by rw [stepG_seq]) ?_)
    (refine QuitsD.ctl rfl (fun w => by rw [stepG_region]) ?_; simp only [List.size_toArray, List.length_cons, List.length_nil, Nat.reduceAdd, Nat.zero_add, List.range, List.range.loop])
    (refine QuitsD.value _ rfl rfl (by k_ne) (fun _ => by go_simp; first | rfl | (try w_num; rfl)) (fun _ => by simp [go_sem, *]) ?_; walk_nrm; try w_num)
    (refine QuitsD.value _ rfl rfl (by k_ne) (fun _ => by go_simp; first | rfl | (try w_num; rfl)) (fun _ => by simp [go_sem, *]) ?_; walk_nrm; try w_num)
    (refine QuitsD.value _ rfl rfl (by k_ne) (fun _ => by go_simp; first | rfl | (try w_num; rfl)) (fun _ => by simp [go_sem, *]) ?_; walk_nrm; try w_num)
    (refine QuitsD.value _ rfl rfl (by k_ne) (fun _ => by go_simp; first | rfl | (try w_num; rfl)) (fun _ => by simp [go_sem, *]) ?_; walk_nrm; try w_num)
    (refine QuitsD.unwanted rfl rfl ?_; walk_nrm)
    (refine QuitsD.unwanted rfl rfl ?_; walk_nrm)
    (refine QuitsD.value _ rfl rfl (by k_ne) (fun _ => by go_simp; first | rfl | (try w_num; rfl)) (fun _ => by simp [go_sem, *]) ?_; walk_nrm; try w_num)
    (refine QuitsD.ctl rfl (fun w => by rw [stepG_region_end]) ?_)
    (refine QuitsD.ctl rfl (fun w => by rw [stepG_cond (t := false) rfl]) ?_; simp only [if_true, if_false, Bool.false_eq_true, ↓reduceIte])
    (refine QuitsD.ctl rfl (fun w => by rw [stepG_skip]) ?_)
    (refine QuitsD.ctl rfl (fun w => by rw [stepG_seq]) ?_)
    (refine QuitsD.ctl rfl (fun w => by rw [stepG_region]) ?_; simp only [List.size_toArray, List.length_cons, List.length_nil, Nat.reduceAdd, Nat.zero_add, List.range, List.range.loop])
    (refine QuitsD.value _ rfl rfl (by k_ne) (fun _ => by go_simp; first | rfl | (try w_num; rfl)) (fun _ => by simp [go_sem, *]) ?_; walk_nrm; try w_num)
    (refine QuitsD.value _ rfl rfl (by k_ne) (fun _ => by go_simp; first | rfl | (try w_num; rfl)) (fun _ => by simp [go_sem, *]) ?_; walk_nrm; try w_num)
    (refine QuitsD.value _ rfl rfl (by k_ne) (fun _ => by go_simp; first | rfl | (try w_num; rfl)) (fun _ => by simp [go_sem, *]) ?_; walk_nrm; try w_num)
    (refine QuitsD.value _ rfl rfl (by k_ne) (fun _ => by go_simp; first | rfl | (try w_num; rfl)) (fun _ => by simp [go_sem, *]) ?_; walk_nrm; try w_num)
    (refine QuitsD.ctl rfl (fun w => by rw [stepG_region_end]) ?_)
    (refine QuitsD.ctl rfl (fun w => by rw [stepG_seq]) ?_)
    (refine QuitsD.ctl rfl (fun w => by rw [stepG_region]) ?_; simp only [List.size_toArray, List.length_cons, List.length_nil, Nat.reduceAdd, Nat.zero_add, List.range, List.range.loop])
    (refine QuitsD.value _ rfl rfl (by k_ne) (fun _ => by go_simp; first | rfl | (try w_num; rfl)) (fun _ => by simp [go_sem, *]) ?_; walk_nrm; try w_num)
    (refine QuitsD.value _ rfl rfl (by k_ne) (fun _ => by go_simp; first | rfl | (try w_num; rfl)) (fun _ => by simp [go_sem, *]) ?_; walk_nrm; try w_num)
    (refine QuitsD.value _ rfl rfl (by k_ne) (fun _ => by go_simp; first | rfl | (try w_num; rfl)) (fun _ => by simp [go_sem, *]) ?_; walk_nrm; try w_num)
    (refine QuitsD.value _ rfl rfl (by k_ne) (fun _ => by go_simp; first | rfl | (try w_num; rfl)) (fun _ => by simp [go_sem, *]) ?_; walk_nrm; try w_num)
    (refine QuitsD.ctl rfl (fun w => by rw [stepG_region_end]) ?_)
    (refine QuitsD.ctl rfl (fun w => by rw [stepG_seq]) ?_)
    (refine QuitsD.ctl rfl (fun w => by rw [stepG_seq]) ?_)
    (refine QuitsD.ctl rfl (fun w => by rw [stepG_region]) ?_; simp only [List.size_toArray, List.length_cons, List.length_nil, Nat.reduceAdd, Nat.zero_add, List.range, List.range.loop])
    (refine QuitsD.value _ rfl rfl (by k_ne) (fun _ => by go_simp; first | rfl | (try w_num; rfl)) (fun _ => by simp [go_sem, *]) ?_; walk_nrm; try w_num)
    (refine QuitsD.value _ rfl rfl (by k_ne) (fun _ => by go_simp; first | rfl | (try w_num; rfl)) (fun _ => by simp [go_sem, *]) ?_; walk_nrm; try w_num)
    (refine QuitsD.value _ rfl rfl (by k_ne) (fun _ => by go_simp; first | rfl | (try w_num; rfl)) (fun _ => by simp [go_sem, *]) ?_; walk_nrm; try w_num)
    (refine QuitsD.value _ rfl rfl (by k_ne) (fun _ => by go_simp; first | rfl | (try w_num; rfl)) (fun _ => by simp [go_sem, *]) ?_; walk_nrm; try w_num)
    (refine QuitsD.value _ rfl rfl (by k_ne) (fun _ => by go_simp; first | rfl | (try w_num; rfl)) (fun _ => by simp [go_sem, *]) ?_; walk_nrm; try w_num)
    (refine QuitsD.unwanted rfl rfl ?_; walk_nrm)
    (refine QuitsD.unwanted rfl rfl ?_; walk_nrm)
    (refine QuitsD.unwanted rfl rfl ?_; walk_nrm)
    (refine QuitsD.unwanted rfl rfl ?_; walk_nrm)
    (refine QuitsD.value _ rfl rfl (by k_ne) (fun _ => by go_simp; first | rfl | (try w_num; rfl)) (fun _ => by simp [go_sem, *]) ?_; walk_nrm; try w_num)
    (refine QuitsD.ctl rfl (fun w => by rw [stepG_region_end]) ?_)
    (refine QuitsD.ctl rfl (fun w => by rw [stepG_cond (t := false) rfl]) ?_; simp only [if_true, if_false, Bool.false_eq_true, ↓reduceIte])
    (refine QuitsD.ctl rfl (fun w => by rw [stepG_skip]) ?_)
    (refine QuitsD.ctl rfl (fun w => by rw [stepG_seq]) ?_)
    (refine QuitsD.ctl rfl (fun w => by rw [stepG_seq]) ?_)
    (refine QuitsD.ctl rfl (fun w => by rw [stepG_region]) ?_; simp only [List.size_toArray, List.length_cons, List.length_nil, Nat.reduceAdd, Nat.zero_add, List.range, List.range.loop])
    (refine QuitsD.value _ rfl rfl (by k_ne) (fun _ => by go_simp; first | rfl | (try w_num; rfl)) (fun _ => by simp [go_sem, *]) ?_; walk_nrm; try w_num)
    (refine QuitsD.value _ rfl rfl (by k_ne) (fun _ => by go_simp; first | rfl | (try w_num; rfl)) (fun _ => by simp [go_sem, *]) ?_; walk_nrm; try w_num)
    (refine QuitsD.ctl rfl (fun w => by rw [stepG_region_end]) ?_)
    (refine QuitsD.ctl rfl (fun w => by rw [stepG_cond (t := false) rfl]) ?_; simp only [if_true, if_false, Bool.false_eq_true, ↓reduceIte])
    (refine QuitsD.ctl rfl (fun w => by rw [stepG_skip]) ?_)
    (refine QuitsD.ctl rfl (fun w => by rw [stepG_seq]) ?_)
    (refine QuitsD.ctl rfl (fun w => by rw [stepG_seq]) ?_)
    (refine QuitsD.ctl rfl (fun w => by rw [stepG_region]) ?_; simp only [List.size_toArray, List.length_cons, List.length_nil, Nat.reduceAdd, Nat.zero_add, List.range, List.range.loop])
    (refine QuitsD.value _ rfl rfl (by k_ne) (fun _ => by go_simp; first | rfl | (try w_num; rfl)) (fun _ => by simp [go_sem, *]) ?_; walk_nrm; try w_num)
    (refine QuitsD.value _ rfl rfl (by k_ne) (fun _ => by go_simp; first | rfl | (try w_num; rfl)) (fun _ => by simp [go_sem, *]) ?_; walk_nrm; try w_num)
    (refine QuitsD.value _ rfl rfl (by k_ne) (fun _ => by go_simp; first | rfl | (try w_num; rfl)) (fun _ => by simp [go_sem, *]) ?_; walk_nrm; try w_num)
    (refine QuitsD.value _ rfl rfl (by k_ne) (fun _ => by go_simp; first | rfl | (try w_num; rfl)) (fun _ => by simp [go_sem, *]) ?_; walk_nrm; try w_num)
    (refine QuitsD.value _ rfl rfl (by k_ne) (fun _ => by go_simp; first | rfl | (try w_num; rfl)) (fun _ => by simp [go_sem, *]) ?_; walk_nrm; try w_num)
    (refine QuitsD.value _ rfl rfl (by k_ne) (fun _ => by go_simp; first | rfl | (try w_num; rfl)) (fun _ => by simp [go_sem, *]) ?_; walk_nrm; try w_num)
    (refine QuitsD.value _ rfl rfl (by k_ne) (fun _ => by go_simp; first | rfl | (try w_num; rfl)) (fun _ => by simp [go_sem, *]) ?_; walk_nrm; try w_num)
    (refine QuitsD.unwanted rfl rfl ?_; walk_nrm)
    (refine QuitsD.unwanted rfl rfl ?_; walk_nrm)
    (refine QuitsD.unwanted rfl rfl ?_; walk_nrm)
    (refine QuitsD.unwanted rfl rfl ?_; walk_nrm)
    (refine QuitsD.value _ rfl rfl (by k_ne) (fun _ => by go_simp; first | rfl | (try w_num; rfl)) (fun _ => by simp [go_sem, *]) ?_; walk_nrm; try w_num)
    (refine QuitsD.ctl rfl (fun w => by rw [stepG_region_end]) ?_)
    (refine QuitsD.ctl rfl (fun w => by rw [stepG_cond (t := false) rfl]) ?_; simp only [if_true, if_false, Bool.false_eq_true, ↓reduceIte])
    (refine QuitsD.ctl rfl (fun w => by rw [stepG_skip]) ?_)
    (refine QuitsD.ctl rfl (fun w => by rw [stepG_seq]) ?_)
    (refine QuitsD.ctl rfl (fun w => by rw [stepG_seq]) ?_)
    (refine QuitsD.ctl rfl (fun w => by rw [stepG_region]) ?_; simp only [List.size_toArray, List.length_cons, List.length_nil, Nat.reduceAdd, Nat.zero_add, List.range, List.range.loop])
    (refine QuitsD.value _ rfl rfl (by k_ne) (fun _ => by go_simp; first | rfl | (try w_num; rfl)) (fun _ => by simp [go_sem, *]) ?_; walk_nrm; try w_num)
    (refine QuitsD.value _ rfl rfl (by k_ne) (fun _ => by go_simp; first | rfl | (try w_num; rfl)) (fun _ => by simp [go_sem, *]) ?_; walk_nrm; try w_num)
    (refine QuitsD.value _ rfl rfl (by k_ne) (fun _ => by go_simp; first | rfl | (try w_num; rfl)) (fun _ => by simp [go_sem, *]) ?_; walk_nrm; try w_num)
    (refine QuitsD.unwanted rfl rfl ?_; walk_nrm)
    (refine QuitsD.unwanted rfl rfl ?_; walk_nrm)
    (refine QuitsD.value _ rfl rfl (by k_ne) (fun _ => by go_simp; first | rfl | (try w_num; rfl)) (fun _ => by simp [go_sem, *]) ?_; walk_nrm; try w_num)
    (refine QuitsD.ctl rfl (fun w => by rw [stepG_region_end]) ?_)
    (refine QuitsD.ctl rfl (fun w => by rw [stepG_cond (t := true) rfl]) ?_; simp only [if_true, if_false, Bool.false_eq_true, ↓reduceIte])
    (refine QuitsD.ctl rfl (fun w => by rw [stepG_ret']) ?_)
    refine QuitsD.unwind_mark .enable rfl (by simp) rfl H.f_enable (x_enable_n L) (x_enable_b L) (x_enable_x L) (x_enable_f L) ?_
    simp only [deafBehind_enable1]
    refine QuitsD.leave0 rfl rfl H.f_add rfl ?_
    walk_nrm
    exact hT
end
end Go.Proofs.Ytdemidfpoojkdaa.Co
