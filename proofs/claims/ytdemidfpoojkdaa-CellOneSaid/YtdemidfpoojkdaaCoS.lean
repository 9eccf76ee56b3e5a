/- word.Of and the example of layer 1 in company. -/
import Derived.Test.YtdemidfpoojkdaaCoT
import Derived.Test.YtdemidfpoojkdaaCoE
namespace Go.Proofs.Ytdemidfpoojkdaa.Co
open Go.Conc Go.ConcN Go.RowKit Go.Conc.Lib Go.ConcR.Gen Go.ConcN.Gen
set_option linter.unusedVariables false
set_option linter.unusedSimpArgs false
noncomputable def bodyOf : Code := Try.f33.body.getD .skip
noncomputable def bodyAw1 : Code := Try.f14.body.getD .skip
section
variable {main : Bool} {R : World → World → Prop} {D : World → World → Array Event → Prop} {Stop : Goroutine → World → Prop} {I : World → Prop} {b₀ : Frame} {a₀ : Act} {ops₀ : Array Oper} {i₀ : Nat} {rest₀ : List Nat} {k₀ : List Item} {cs : List Frame} {mT : Nat}
set_option maxRecDepth 100000 in
set_option maxHeartbeats 8000000 in
theorem of_g (hI : ∀ w w', R w w' → I w → I w') (hD : ∀ w, D w w #[]) (s v : Int) (h0 : 0 ≤ v) (h1 : v < 18446744073709551616)
    (hT : ∀ w, I w → Goes Try.prog main R D Stop mT (G (b₀.at (a₀.put ((ops₀[i₀]?).bind (·.dst)) (.int .u64 (wOf s v))) (.inRegion ops₀ rest₀ :: k₀)) cs) w) (w : World) (hF : I w) :
    Goes Try.prog main R D Stop (mT + 40) (G ((base 33).at ⟨#[.int .i64 s, .int .u64 v, undef, undef, undef, undef, undef, undef, undef, undef, undef], []⟩ [.code bodyOf]) (b₀.at a₀ (.inRegion ops₀ (i₀ :: rest₀) :: k₀) :: cs)) w := by
  have hv : bits .or .u64 (IntKind.u64.wrap (v * 4)) (bits .and .u64 (IntKind.u64.wrap s) 3) = wOf s v := by
    rw [and3 _ (by rw [u64_wrap]; omega) (by rw [u64_wrap]; omega), or4 _ _ (by omega) (by omega)]
    simp only [u64_wrap]
    unfold wOf
    omega
  rw [← hv] at hT
  clear hv
  simp only [bodyOf, Try.f33, Option.getD_some]
  repeat (refine Goes.step rfl (fun _ h₁ => ?_); replace hF := hI _ _ h₁ hF; clear h₁; first
    | (rw [stepG_seq]; simp only [goes_go]; refine ⟨hD _, ?_⟩)
    | (rw [stepG_region_end]; simp only [goes_go]; refine ⟨hD _, ?_⟩)
    | (rw [stepG_skip]; simp only [goes_go]; refine ⟨hD _, ?_⟩)
    | (rw [stepG_ret']; simp only [goes_go]; refine ⟨hD _, ?_⟩)
    | (rw [stepG_block]; simp only [goes_go]; refine ⟨hD _, ?_⟩)
    | (rw [stepG_loop]; simp only [goes_go]; refine ⟨hD _, ?_⟩)
    | (rw [stepG_inBlock]; simp only [goes_go]; refine ⟨hD _, ?_⟩)
    | (rw [stepG_inLoop]; simp only [goes_go]; refine ⟨hD _, ?_⟩)
    | (rw [stepG_end]; simp only [goes_go]; refine ⟨hD _, ?_⟩)
    | (rw [stepG_region]; simp only [goes_go, List.size_toArray, List.length_cons, List.length_nil, Nat.reduceAdd, Nat.zero_add, List.range, List.range.loop]; refine ⟨hD _, ?_⟩)
    | (rw [stepG_cond (t := true) rfl]; simp only [goes_go, if_true, if_false, Bool.false_eq_true, ↓reduceIte]; refine ⟨hD _, ?_⟩)
    | (rw [stepG_cond (t := false) rfl]; simp only [goes_go, if_true, if_false, Bool.false_eq_true, ↓reduceIte]; refine ⟨hD _, ?_⟩)
    | (rw [stepG_unwanted rfl rfl]; simp only [goes_go]; refine ⟨hD _, ?_⟩; walk_nrm)
    | (refine goes_oper_k rfl rfl (by decide) (fun K hK => ?_); go_simp; refine hK _ _ ⟨?_, ?_⟩; (focus (rw [listed_nil (by simp [go_sem, *])]; exact hD _)); clear hK K)
    | (refine goes_exit rfl ?_; refine ⟨hD _, ?_⟩))
  refine Goes.step rfl (fun _ h₁ => ?_); replace hF := hI _ _ h₁ hF; clear h₁
  refine goes_leave1 rfl rfl Try.func33 rfl ⟨hD _, ?_⟩
  walk_nrm
  exact Goes.mono (hT _ hF) (by omega)

set_option maxRecDepth 100000 in
set_option maxHeartbeats 8000000 in
theorem aw1_g (hI : ∀ w w', R w w' → I w → I w') (hD : ∀ w, D w w #[])
    (hT : ∀ w, I w → Goes Try.prog main R D Stop mT (G (b₀.at (a₀.put ((ops₀[i₀]?).bind (·.dst)) (.bool true)) (.inRegion ops₀ rest₀ :: k₀)) cs) w) (w : World) (hF : I w) :
    Goes Try.prog main R D Stop (mT + 500) (G ((base 14).at ⟨#[undef, undef], []⟩ [.code bodyAw1]) (b₀.at a₀ (.inRegion ops₀ (i₀ :: rest₀) :: k₀) :: cs)) w := by
  simp only [bodyAw1, Try.f14, Option.getD_some]
  repeat (refine Goes.step rfl (fun _ h₁ => ?_); replace hF := hI _ _ h₁ hF; clear h₁; first
    | (rw [stepG_seq]; simp only [goes_go]; refine ⟨hD _, ?_⟩)
    | (rw [stepG_region_end]; simp only [goes_go]; refine ⟨hD _, ?_⟩)
    | (rw [stepG_skip]; simp only [goes_go]; refine ⟨hD _, ?_⟩)
    | (rw [stepG_ret']; simp only [goes_go]; refine ⟨hD _, ?_⟩)
    | (rw [stepG_block]; simp only [goes_go]; refine ⟨hD _, ?_⟩)
    | (rw [stepG_loop]; simp only [goes_go]; refine ⟨hD _, ?_⟩)
    | (rw [stepG_inBlock]; simp only [goes_go]; refine ⟨hD _, ?_⟩)
    | (rw [stepG_inLoop]; simp only [goes_go]; refine ⟨hD _, ?_⟩)
    | (rw [stepG_end]; simp only [goes_go]; refine ⟨hD _, ?_⟩)
    | (rw [stepG_region]; simp only [goes_go, List.size_toArray, List.length_cons, List.length_nil, Nat.reduceAdd, Nat.zero_add, List.range, List.range.loop]; refine ⟨hD _, ?_⟩)
    | (rw [stepG_cond (t := true) rfl]; simp only [goes_go, if_true, if_false, Bool.false_eq_true, ↓reduceIte]; refine ⟨hD _, ?_⟩)
    | (rw [stepG_cond (t := false) rfl]; simp only [goes_go, if_true, if_false, Bool.false_eq_true, ↓reduceIte]; refine ⟨hD _, ?_⟩)
    | (rw [stepG_unwanted rfl rfl]; simp only [goes_go]; refine ⟨hD _, ?_⟩; walk_nrm)
    | (refine goes_call rfl rfl (by decide) rfl Try.func36 (by rfl) rfl ⟨hD _, ?_⟩; walk_nrmf Try.f36)
    | (refine goes_leave1 rfl rfl Try.func36 rfl ⟨hD _, ?_⟩; walk_nrm)
    | (refine goes_oper_k rfl rfl (by decide) (fun K hK => ?_); go_simp; refine hK _ _ ⟨?_, ?_⟩; (focus (rw [listed_nil (by simp [go_sem, *])]; exact hD _)); clear hK K)
    | (refine goes_exit rfl ?_; refine ⟨hD _, ?_⟩))
  refine Goes.step rfl (fun _ h₁ => ?_); replace hF := hI _ _ h₁ hF; clear h₁
  refine goes_call rfl rfl (by decide) rfl Try.func33 (by rfl) rfl ⟨hD _, ?_⟩
  walk_nrmf Try.f33
  refine Goes.mono (of_g (I := I) (mT := mT + 400) hI hD 0 5 (by decide) (by decide) (fun w hF => ?_) _ hF) (by omega)
  rw [show wOf 0 5 = 20 from by decide]
  walk_nrm
  repeat (refine Goes.step rfl (fun _ h₁ => ?_); replace hF := hI _ _ h₁ hF; clear h₁; first
    | (rw [stepG_seq]; simp only [goes_go]; refine ⟨hD _, ?_⟩)
    | (rw [stepG_region_end]; simp only [goes_go]; refine ⟨hD _, ?_⟩)
    | (rw [stepG_skip]; simp only [goes_go]; refine ⟨hD _, ?_⟩)
    | (rw [stepG_ret']; simp only [goes_go]; refine ⟨hD _, ?_⟩)
    | (rw [stepG_block]; simp only [goes_go]; refine ⟨hD _, ?_⟩)
    | (rw [stepG_loop]; simp only [goes_go]; refine ⟨hD _, ?_⟩)
    | (rw [stepG_inBlock]; simp only [goes_go]; refine ⟨hD _, ?_⟩)
    | (rw [stepG_inLoop]; simp only [goes_go]; refine ⟨hD _, ?_⟩)
    | (rw [stepG_end]; simp only [goes_go]; refine ⟨hD _, ?_⟩)
    | (rw [stepG_region]; simp only [goes_go, List.size_toArray, List.length_cons, List.length_nil, Nat.reduceAdd, Nat.zero_add, List.range, List.range.loop]; refine ⟨hD _, ?_⟩)
    | (rw [stepG_cond (t := true) rfl]; simp only [goes_go, if_true, if_false, Bool.false_eq_true, ↓reduceIte]; refine ⟨hD _, ?_⟩)
    | (rw [stepG_cond (t := false) rfl]; simp only [goes_go, if_true, if_false, Bool.false_eq_true, ↓reduceIte]; refine ⟨hD _, ?_⟩)
    | (rw [stepG_unwanted rfl rfl]; simp only [goes_go]; refine ⟨hD _, ?_⟩; walk_nrm)
    | (refine goes_oper_k rfl rfl (by decide) (fun K hK => ?_); go_simp; refine hK _ _ ⟨?_, ?_⟩; (focus (rw [listed_nil (by simp [go_sem, *])]; exact hD _)); clear hK K)
    | (refine goes_exit rfl ?_; refine ⟨hD _, ?_⟩))
  refine Goes.step rfl (fun _ h₁ => ?_); replace hF := hI _ _ h₁ hF; clear h₁
  refine goes_call rfl rfl (by decide) rfl Try.func11 (by rfl) rfl ⟨hD _, ?_⟩
  walk_nrmf Try.f11
  refine Goes.mono (to_g (I := I) (mT := mT + 200) hI hD 20 1 (by decide) (by decide) (by decide) (by decide) (fun w hF => ?_) _ hF) (by omega)
  rw [show wTo 20 1 = 25 from by decide, show wMay (20 % 4) 1 = true from by decide]
  walk_nrm
  repeat (refine Goes.step rfl (fun _ h₁ => ?_); replace hF := hI _ _ h₁ hF; clear h₁; first
    | (rw [stepG_seq]; simp only [goes_go]; refine ⟨hD _, ?_⟩)
    | (rw [stepG_region_end]; simp only [goes_go]; refine ⟨hD _, ?_⟩)
    | (rw [stepG_skip]; simp only [goes_go]; refine ⟨hD _, ?_⟩)
    | (rw [stepG_ret']; simp only [goes_go]; refine ⟨hD _, ?_⟩)
    | (rw [stepG_block]; simp only [goes_go]; refine ⟨hD _, ?_⟩)
    | (rw [stepG_loop]; simp only [goes_go]; refine ⟨hD _, ?_⟩)
    | (rw [stepG_inBlock]; simp only [goes_go]; refine ⟨hD _, ?_⟩)
    | (rw [stepG_inLoop]; simp only [goes_go]; refine ⟨hD _, ?_⟩)
    | (rw [stepG_end]; simp only [goes_go]; refine ⟨hD _, ?_⟩)
    | (rw [stepG_region]; simp only [goes_go, List.size_toArray, List.length_cons, List.length_nil, Nat.reduceAdd, Nat.zero_add, List.range, List.range.loop]; refine ⟨hD _, ?_⟩)
    | (rw [stepG_cond (t := true) rfl]; simp only [goes_go, if_true, if_false, Bool.false_eq_true, ↓reduceIte]; refine ⟨hD _, ?_⟩)
    | (rw [stepG_cond (t := false) rfl]; simp only [goes_go, if_true, if_false, Bool.false_eq_true, ↓reduceIte]; refine ⟨hD _, ?_⟩)
    | (rw [stepG_unwanted rfl rfl]; simp only [goes_go]; refine ⟨hD _, ?_⟩; walk_nrm)
    | (refine goes_oper_k rfl rfl (by decide) (fun K hK => ?_); go_simp; refine hK _ _ ⟨?_, ?_⟩; (focus (rw [listed_nil (by simp [go_sem, *])]; exact hD _)); clear hK K)
    | (refine goes_exit rfl ?_; refine ⟨hD _, ?_⟩))
  refine Goes.step rfl (fun _ h₁ => ?_); replace hF := hI _ _ h₁ hF; clear h₁
  refine goes_call rfl rfl (by decide) rfl Try.func33 (by rfl) rfl ⟨hD _, ?_⟩
  walk_nrmf Try.f33
  refine Goes.mono (of_g (I := I) (mT := mT + 100) hI hD 0 5 (by decide) (by decide) (fun w hF => ?_) _ hF) (by omega)
  rw [show wOf 0 5 = 20 from by decide]
  walk_nrm
  repeat (refine Goes.step rfl (fun _ h₁ => ?_); replace hF := hI _ _ h₁ hF; clear h₁; first
    | (rw [stepG_seq]; simp only [goes_go]; refine ⟨hD _, ?_⟩)
    | (rw [stepG_region_end]; simp only [goes_go]; refine ⟨hD _, ?_⟩)
    | (rw [stepG_skip]; simp only [goes_go]; refine ⟨hD _, ?_⟩)
    | (rw [stepG_ret']; simp only [goes_go]; refine ⟨hD _, ?_⟩)
    | (rw [stepG_block]; simp only [goes_go]; refine ⟨hD _, ?_⟩)
    | (rw [stepG_loop]; simp only [goes_go]; refine ⟨hD _, ?_⟩)
    | (rw [stepG_inBlock]; simp only [goes_go]; refine ⟨hD _, ?_⟩)
    | (rw [stepG_inLoop]; simp only [goes_go]; refine ⟨hD _, ?_⟩)
    | (rw [stepG_end]; simp only [goes_go]; refine ⟨hD _, ?_⟩)
    | (rw [stepG_region]; simp only [goes_go, List.size_toArray, List.length_cons, List.length_nil, Nat.reduceAdd, Nat.zero_add, List.range, List.range.loop]; refine ⟨hD _, ?_⟩)
    | (rw [stepG_cond (t := true) rfl]; simp only [goes_go, if_true, if_false, Bool.false_eq_true, ↓reduceIte]; refine ⟨hD _, ?_⟩)
    | (rw [stepG_cond (t := false) rfl]; simp only [goes_go, if_true, if_false, Bool.false_eq_true, ↓reduceIte]; refine ⟨hD _, ?_⟩)
    | (rw [stepG_unwanted rfl rfl]; simp only [goes_go]; refine ⟨hD _, ?_⟩; walk_nrm)
    | (refine goes_call rfl rfl (by decide) rfl Try.func36 (by rfl) rfl ⟨hD _, ?_⟩; walk_nrmf Try.f36)
    | (refine goes_leave1 rfl rfl Try.func36 rfl ⟨hD _, ?_⟩; walk_nrm)
    | (refine goes_oper_k rfl rfl (by decide) (fun K hK => ?_); go_simp; refine hK _ _ ⟨?_, ?_⟩; (focus (rw [listed_nil (by simp [go_sem, *])]; exact hD _)); clear hK K)
    | (refine goes_exit rfl ?_; refine ⟨hD _, ?_⟩))
  refine Goes.step rfl (fun _ h₁ => ?_); replace hF := hI _ _ h₁ hF; clear h₁
  refine goes_leave1 rfl rfl Try.func14 rfl ⟨hD _, ?_⟩
  walk_nrm
  exact Goes.mono (hT _ hF) (by omega)
end
end Go.Proofs.Ytdemidfpoojkdaa.Co
