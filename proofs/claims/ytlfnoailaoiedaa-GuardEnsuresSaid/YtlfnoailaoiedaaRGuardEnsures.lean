/- The statement of hackneylaw07.GuardEnsures: for every input the call returns true, and the arguments read as before. No further condition. -/
import Derived.Test.YtlfnoailaoiedaaFacts
import Derived.Test.YtlfnoailaoiedaaLawGuardE
import Derived.Test.YtlfnoailaoiedaaOpen
import Derived.Test.YtlfnoailaoiedaaLeav
import Derived.WalkKit
import Derived.ProofKit
import Derived.OpenShut
import Derived.ShutString
import Derived.ChangeOld
import Derived.Below
namespace Go.Proofs.Ytlfnoailaoiedaa.guardEnsures
open Go.ChangeShapes Go.WideShapes Go.ChangeAt Go.RowKit
open Go.ChangeMaps (open_string shut_string)
set_option linter.unusedVariables false

set_option maxRecDepth 100000 in
theorem lifted (os : Os) (started : os.Started) (H : Type) (enc : TypeId × Value → H) :
    ReturnsInHanded {} Try.checked os 10 .any (Rows.guardEnsuresSpec.pre6 enc Try.prog Try.f10 Rows.guardEnsuresRow.domain false) (Rows.guardEnsuresSpec.post enc Try.prog Try.f10 false true false false) := by
  refine returnsInHanded_of_change (C := Try.checked) pf_own started (by kernel_rfl) Try.func10
    (ChangeSpec.witness6 (enc := enc) (C := Try.checked) false ⟨#[], #[.slice none 0 0], []⟩ 8 (by kernel_rfl) (by kernel_rfl) (by kernel_rfl) (by kernel_rfl)) ?_
  intro W base args ds gs before hval0 hW hcnd _
  have hval : ∀ (j : Nat) t v, Try.f10.params[j]? = some t → args[j]? = some v → Value.okWide Try.prog W .any base t v := hval0
  have hW' := hW
  obtain ⟨p, q, hA0, hV, rfl, hfz, hnd⟩ := hW
  have hA : DataW.TrodAll enc Try.prog W 0 (fun _ => true) true Try.f10.params.toList args.toList ds p := hA0
  rw [Try.params10] at hA hval
  obtain ⟨v0, vs0, d0, ds0, p0, q0, hargs, rfl, rfl, h0, r0⟩ := trodAll_cons hA
  obtain ⟨rfl, rfl, rfl⟩ := trodAll_nil r0
  obtain rfl : args = #[v0] := by cases args; simp_all
  obtain ⟨rfl, rfl⟩ := trodVars_none hV
  have k0 := h0
  have lt0 : ∀ x ∈ p0, x.block < W.heap.size := by obtain ⟨m, hm⟩ := k0; exact DataW.trod_lt m _ _ _ hm
  obtain ⟨a0, len0, cap0, rfl⟩ := okWide_slice Try.underlying90 (hval 0 90 v0 rfl rfl)
  obtain ⟨z0, w0⟩ := open_hackneylaw07_End h0
  clear hA0 hval0
  refine (law_GuardEnsures a0 len0 cap0 z0 W w0).mono fun e W' ⟨he, bel⟩ => ?_
  subst he
  exact ⟨_, rfl, _, _, _, [], _, [], hW', trodAll_mk1 (shut_bool Try.underlying4 _), (trodAll_cons_mk (Below.trod pf_laidOut (by kernel_rfl) (of_decide_eq_true (by kernel_rfl)) k0 bel lt0) trodAll_mk0), rfl, bel.frame _, fun h => by cases h⟩

theorem c_wf : Rows.guardEnsuresRow.wf (OpenSpec.ofChange Rows.guardEnsuresSpec) = true := by kernel_rfl
theorem c_inPlace : (Rows.guardEnsuresRow.inPlace == Try.prog.inPlace 10) = true := by kernel_rfl
theorem c_unfollowed : (Rows.guardEnsuresRow.unfollowed == Try.prog.unfollowed 10) = true := by kernel_rfl
theorem c_recurses : (Rows.guardEnsuresRow.recurses == Try.prog.recurses 10) = true := by kernel_rfl
theorem c_named : (Rows.guardEnsuresRow.named == Try.prog.varsNamed 10) = true := by kernel_rfl
theorem closed : joinedFacts Try.prog 10 Try.f10 Rows.guardEnsuresSpec Rows.guardEnsuresRow = true := by
  unfold joinedFacts
  simp only [Bool.and_eq_true]
  exact ⟨⟨⟨⟨⟨⟨⟨⟨⟨⟨⟨⟨⟨⟨⟨⟨⟨⟨⟨⟨⟨⟨⟨⟨⟨⟨⟨⟨⟨⟨⟨c_wf, pf_laidOut⟩, pf_mapsRowed⟩, (by kernel_rfl)⟩, (by kernel_rfl)⟩, (by kernel_rfl)⟩, pf_stops⟩, (by kernel_rfl)⟩, pf_stopKnobs⟩, c_inPlace⟩, c_unfollowed⟩, c_recurses⟩, c_named⟩, (by kernel_rfl)⟩, (by kernel_rfl)⟩, (by kernel_rfl)⟩, (by kernel_rfl)⟩, (by kernel_rfl)⟩, (by kernel_rfl)⟩, (by kernel_rfl)⟩, (by kernel_rfl)⟩, (by kernel_rfl)⟩, (by rw [pf_plainKeys]; rfl)⟩, (by kernel_rfl)⟩, pf_stopsHeard⟩, pf_mayEnter⟩, (by rw [pf_lifts]; rfl)⟩, pf_make⟩, (by kernel_rfl)⟩, (by kernel_rfl)⟩, (by kernel_rfl)⟩, (by kernel_rfl)⟩

theorem named : Try.pinned.checked.prog.funcNamed Rows.guardEnsuresRow.func = some 10 := by kernel_rfl
theorem inst : Try.f10.isInstance Try.pinned.checked.prog Rows.guardEnsuresRow.origin Rows.guardEnsuresRow.targs := of_decide_eq_true (by kernel_rfl)
theorem wrap : Try.f10.isWrapper Try.pinned.checked.prog Rows.guardEnsuresRow.wrapper Rows.guardEnsuresRow.mainSum := by
  unfold Func.isWrapper; rw [if_neg (by decide +kernel)]; exact ⟨rfl, rfl⟩

theorem over : Rows.guardEnsuresRow.holds Try.pinned (OpenSpec.ofChange Rows.guardEnsuresSpec) :=
  OpenClaim.holds_of_wide_leaving 10 Try.f10 rfl rfl rfl rfl rfl rfl rfl ⟨rfl, rfl, rfl, rfl, rfl⟩ rfl rfl rfl rfl rfl named Try.func10 closed inst wrap
    (fun os started H enc _ => leaving_of_handed (lifted os started H enc))

theorem proved : Rows.GuardEnsuresSaid := over
#print axioms proved
end Go.Proofs.Ytlfnoailaoiedaa.guardEnsures
