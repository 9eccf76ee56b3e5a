/- The word's To in company. -/
import Derived.Test.YtdemidfpoojkdaaCoW
import Derived.Test.YtdemidfpoojkdaaWord
namespace Go.Proofs.Ytdemidfpoojkdaa.Co
open Go.Conc Go.ConcN Go.RowKit Go.Conc.Lib Go.ConcR.Gen Go.ConcN.Gen
set_option linter.unusedVariables false
set_option linter.unusedSimpArgs false
noncomputable def bodyTo : Code := Try.f11.body.getD .skip
theorem four {s : Int} (h0 : 0 ≤ s) (h1 : s < 4) : s = 0 ∨ s = 1 ∨ s = 2 ∨ s = 3 := by omega
section
variable {main : Bool} {R : World → World → Prop} {D : World → World → Array Event → Prop} {Stop : Goroutine → World → Prop} {I : World → Prop} {b₀ : Frame} {a₀ : Act} {ops₀ : Array Oper} {i₀ : Nat} {rest₀ : List Nat} {k₀ : List Item} {cs : List Frame} {mT : Nat}
set_option maxRecDepth 100000 in
set_option maxHeartbeats 8000000 in
theorem to_g (hI : ∀ w w', R w w' → I w → I w') (hD : ∀ w, D w w #[]) (x t : Int) (h0 : 0 ≤ x) (h1 : x < 18446744073709551616) (h2 : 0 ≤ t) (h3 : t < 4)
    (hT : ∀ w, I w → Goes Try.prog main R D Stop mT (G (b₀.at (a₀.put ((ops₀[i₀]?).bind (·.dst)) (.tuple #[.int .u64 (wTo x t), .bool (wMay (x % 4) t)])) (.inRegion ops₀ rest₀ :: k₀)) cs) w) (w : World) (hF : I w) :
    Goes Try.prog main R D Stop (mT + 150) (G ((base 11).at ⟨#[.int .u64 x, .int .i64 t, undef, undef, undef, undef, undef, undef, undef, undef, undef, undef, undef, undef, undef, undef, undef], []⟩ [.code bodyTo]) (b₀.at a₀ (.inRegion ops₀ (i₀ :: rest₀) :: k₀) :: cs)) w := by
  have hand := and3 x h0 h1
  have hval : ∀ b, wMay (x % 4) t = b → (if b = true then bits .or .u64 (IntKind.u64.wrap (IntKind.u64.wrap (x / 4 + 1) * 4)) (bits .and .u64 (IntKind.u64.wrap t) 3) else x) = wTo x t := by
    intro b hb
    cases b with
    | false => simp [wTo, hb]
    | true =>
      rw [if_pos rfl, and3 _ (by rw [u64_wrap]; omega) (by rw [u64_wrap]; omega), or4 _ _ (by omega) (by omega)]
      simp only [u64_wrap]
      unfold wTo wOf
      rw [if_pos hb]
      omega
  rcases four (s := x % 4) (by omega) (by omega) with hs | hs | hs | hs <;> rcases four h2 h3 with ht | ht | ht | ht
  all_goals
    rw [hs] at hand
    simp only [bodyTo, Try.f11, Option.getD_some]
    clear h0 h1 h2 h3
    first
      | (have hm : wMay (x % 4) t = true := (by rw [hs, ht]; rfl)
         have hv := hval _ hm
         rw [if_pos rfl, ht] at hv
         rw [hm, ht, ← hv] at hT
         clear hval hv hm
         repeat (refine Goes.step rfl (fun _ h₁ => ?_); replace hF := hI _ _ h₁ hF; clear h₁; first
           | (rw [stepG_seq]; simp only [goes_go]; refine ⟨hD _, ?_⟩)
           | (rw [stepG_region_end]; simp only [goes_go]; refine ⟨hD _, ?_⟩)
           | (rw [stepG_skip]; simp only [goes_go]; refine ⟨hD _, ?_⟩)
           | (rw [stepG_ret']; simp only [goes_go]; refine ⟨hD _, ?_⟩)
           | (rw [stepG_block]; simp only [goes_go]; refine ⟨hD _, ?_⟩)
           | (rw [stepG_loop]; simp only [goes_go]; refine ⟨hD _, ?_⟩)
           | (rw [stepG_inBlock]; simp only [goes_go]; refine ⟨hD _, ?_⟩)
           | (rw [stepG_inLoop]; simp only [goes_go]; refine ⟨hD _, ?_⟩)
           | (rw [stepG_end]; simp only [goes_go]; refine ⟨hD _, ?_⟩)
           | (rw [stepG_region]; simp only [goes_go, List.size_toArray, List.length_cons, List.length_nil, Nat.reduceAdd, Nat.zero_add, List.range, List.range.loop]; refine ⟨hD _, ?_⟩)
           | (rw [stepG_cond (t := true) rfl]; simp only [goes_go, if_true, if_false, Bool.false_eq_true, ↓reduceIte]; refine ⟨hD _, ?_⟩)
           | (rw [stepG_cond (t := false) rfl]; simp only [goes_go, if_true, if_false, Bool.false_eq_true, ↓reduceIte]; refine ⟨hD _, ?_⟩)
           | (rw [stepG_unwanted rfl rfl]; simp only [goes_go]; refine ⟨hD _, ?_⟩; walk_nrm)
           | (refine goes_call rfl rfl (by decide) rfl Try.func32 (by rfl) rfl ⟨hD _, ?_⟩; walk_nrmf Try.f32)
           | (refine goes_leave1 rfl rfl Try.func32 rfl ⟨hD _, ?_⟩; walk_nrm)
           | (refine goes_call rfl rfl (by decide) rfl Try.func31 (by rfl) rfl ⟨hD _, ?_⟩; walk_nrmf Try.f31)
           | (refine goes_leave1 rfl rfl Try.func31 rfl ⟨hD _, ?_⟩; walk_nrm)
           | (refine goes_call rfl rfl (by decide) rfl Try.func34 (by rfl) rfl ⟨hD _, ?_⟩; walk_nrmf Try.f34)
           | (refine goes_leave1 rfl rfl Try.func34 rfl ⟨hD _, ?_⟩; walk_nrm)
           | (refine goes_call rfl rfl (by decide) rfl Try.func33 (by rfl) rfl ⟨hD _, ?_⟩; walk_nrmf Try.f33)
           | (refine goes_leave1 rfl rfl Try.func33 rfl ⟨hD _, ?_⟩; walk_nrm)
           | (refine goes_oper_k rfl rfl (by decide) (fun K hK => ?_); go_simp; refine hK _ _ ⟨?_, ?_⟩; (focus (rw [listed_nil (by simp [go_sem, *])]; exact hD _)); clear hK K)
           | (refine goes_exit rfl ?_; refine ⟨hD _, ?_⟩))
         refine Goes.step rfl (fun _ h₁ => ?_); replace hF := hI _ _ h₁ hF; clear h₁
         refine goes_leave2 rfl rfl Try.func11 rfl ⟨hD _, ?_⟩
         walk_nrm
         exact Goes.mono (hT _ hF) (by omega))
      | (have hm : wMay (x % 4) t = false := (by rw [hs, ht]; rfl)
         have hv := hval _ hm
         rw [if_neg (by simp)] at hv
         rw [hm, ← hv] at hT
         clear hval hv hm
         repeat (refine Goes.step rfl (fun _ h₁ => ?_); replace hF := hI _ _ h₁ hF; clear h₁; first
           | (rw [stepG_seq]; simp only [goes_go]; refine ⟨hD _, ?_⟩)
           | (rw [stepG_region_end]; simp only [goes_go]; refine ⟨hD _, ?_⟩)
           | (rw [stepG_skip]; simp only [goes_go]; refine ⟨hD _, ?_⟩)
           | (rw [stepG_ret']; simp only [goes_go]; refine ⟨hD _, ?_⟩)
           | (rw [stepG_block]; simp only [goes_go]; refine ⟨hD _, ?_⟩)
           | (rw [stepG_loop]; simp only [goes_go]; refine ⟨hD _, ?_⟩)
           | (rw [stepG_inBlock]; simp only [goes_go]; refine ⟨hD _, ?_⟩)
           | (rw [stepG_inLoop]; simp only [goes_go]; refine ⟨hD _, ?_⟩)
           | (rw [stepG_end]; simp only [goes_go]; refine ⟨hD _, ?_⟩)
           | (rw [stepG_region]; simp only [goes_go, List.size_toArray, List.length_cons, List.length_nil, Nat.reduceAdd, Nat.zero_add, List.range, List.range.loop]; refine ⟨hD _, ?_⟩)
           | (rw [stepG_cond (t := true) rfl]; simp only [goes_go, if_true, if_false, Bool.false_eq_true, ↓reduceIte]; refine ⟨hD _, ?_⟩)
           | (rw [stepG_cond (t := false) rfl]; simp only [goes_go, if_true, if_false, Bool.false_eq_true, ↓reduceIte]; refine ⟨hD _, ?_⟩)
           | (rw [stepG_unwanted rfl rfl]; simp only [goes_go]; refine ⟨hD _, ?_⟩; walk_nrm)
           | (refine goes_call rfl rfl (by decide) rfl Try.func32 (by rfl) rfl ⟨hD _, ?_⟩; walk_nrmf Try.f32)
           | (refine goes_leave1 rfl rfl Try.func32 rfl ⟨hD _, ?_⟩; walk_nrm)
           | (refine goes_call rfl rfl (by decide) rfl Try.func31 (by rfl) rfl ⟨hD _, ?_⟩; walk_nrmf Try.f31)
           | (refine goes_leave1 rfl rfl Try.func31 rfl ⟨hD _, ?_⟩; walk_nrm)
           | (refine goes_call rfl rfl (by decide) rfl Try.func34 (by rfl) rfl ⟨hD _, ?_⟩; walk_nrmf Try.f34)
           | (refine goes_leave1 rfl rfl Try.func34 rfl ⟨hD _, ?_⟩; walk_nrm)
           | (refine goes_call rfl rfl (by decide) rfl Try.func33 (by rfl) rfl ⟨hD _, ?_⟩; walk_nrmf Try.f33)
           | (refine goes_leave1 rfl rfl Try.func33 rfl ⟨hD _, ?_⟩; walk_nrm)
           | (refine goes_oper_k rfl rfl (by decide) (fun K hK => ?_); go_simp; refine hK _ _ ⟨?_, ?_⟩; (focus (rw [listed_nil (by simp [go_sem, *])]; exact hD _)); clear hK K)
           | (refine goes_exit rfl ?_; refine ⟨hD _, ?_⟩))
         refine Goes.step rfl (fun _ h₁ => ?_); replace hF := hI _ _ h₁ hF; clear h₁
         refine goes_leave2 rfl rfl Try.func11 rfl ⟨hD _, ?_⟩
         walk_nrm
         exact Goes.mono (hT _ hF) (by omega))
end
end Go.Proofs.Ytdemidfpoojkdaa.Co
