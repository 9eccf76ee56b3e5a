/- The statement of hackneylaw08.PicksNone: for every input the call returns true, and the arguments read as before. No further condition. -/
import Derived.Test.YtlfnoailaoiedaaFacts
import Derived.Test.YtlfnoailaoiedaaPicks3
import Derived.Test.YtlfnoailaoiedaaOpen
import Derived.Test.YtlfnoailaoiedaaLeav
import Derived.WalkKit
import Derived.ProofKit
import Derived.OpenShut
import Derived.ShutString
import Derived.ChangeOld
import Derived.Below
namespace Go.Proofs.Ytlfnoailaoiedaa.picksNone
open Go.ChangeShapes Go.WideShapes Go.ChangeAt Go.RowKit
open Go.ChangeMaps (open_string shut_string)
set_option linter.unusedVariables false

set_option maxRecDepth 100000 in
theorem lifted (os : Os) (started : os.Started) (H : Type) (enc : TypeId × Value → H) :
    ReturnsInHanded {} Try.checked os 13 .any (Rows.picksNoneSpec.pre6 enc Try.prog Try.f13 Rows.picksNoneRow.domain false) (Rows.picksNoneSpec.post enc Try.prog Try.f13 false true false false) := by
  refine returnsInHanded_of_change (C := Try.checked) pf_own started (by kernel_rfl) Try.func13
    (ChangeSpec.witness6 (enc := enc) (C := Try.checked) false ⟨#[], #[], []⟩ 8 (by kernel_rfl) (by kernel_rfl) (by kernel_rfl) (by kernel_rfl)) ?_
  intro W base args ds gs before hval0 hW hcnd _
  have hval : ∀ (j : Nat) t v, Try.f13.params[j]? = some t → args[j]? = some v → Value.okWide Try.prog W .any base t v := hval0
  have hW' := hW
  obtain ⟨p, q, hA0, hV, rfl, hfz, hnd⟩ := hW
  have hA : DataW.TrodAll enc Try.prog W 0 (fun _ => true) true Try.f13.params.toList args.toList ds p := hA0
  rw [Try.params13] at hA hval
  obtain ⟨hargs, rfl, rfl⟩ := trodAll_none hA
  obtain rfl : args = #[] := by cases args; simp_all
  obtain ⟨rfl, rfl⟩ := trodVars_none hV
  clear hA0 hval0
  refine (law_PicksNone  W ).mono fun e W' ⟨he, bel⟩ => ?_
  subst he
  exact ⟨_, rfl, _, _, _, [], _, [], hW', trodAll_mk1 (shut_bool Try.underlying4 _), trodAll_mk0, rfl, bel.frame _, fun h => by cases h⟩

theorem c_wf : Rows.picksNoneRow.wf (OpenSpec.ofChange Rows.picksNoneSpec) = true := by kernel_rfl
theorem c_inPlace : (Rows.picksNoneRow.inPlace == Try.prog.inPlace 13) = true := by kernel_rfl
theorem c_unfollowed : (Rows.picksNoneRow.unfollowed == Try.prog.unfollowed 13) = true := by kernel_rfl
theorem c_recurses : (Rows.picksNoneRow.recurses == Try.prog.recurses 13) = true := by kernel_rfl
theorem c_named : (Rows.picksNoneRow.named == Try.prog.varsNamed 13) = true := by kernel_rfl
theorem closed : joinedFacts Try.prog 13 Try.f13 Rows.picksNoneSpec Rows.picksNoneRow = true := by
  unfold joinedFacts
  simp only [Bool.and_eq_true]
  exact ⟨⟨⟨⟨⟨⟨⟨⟨⟨⟨⟨⟨⟨⟨⟨⟨⟨⟨⟨⟨⟨⟨⟨⟨⟨⟨⟨⟨⟨⟨⟨c_wf, pf_laidOut⟩, pf_mapsRowed⟩, (by kernel_rfl)⟩, (by kernel_rfl)⟩, (by kernel_rfl)⟩, pf_stops⟩, (by kernel_rfl)⟩, pf_stopKnobs⟩, c_inPlace⟩, c_unfollowed⟩, c_recurses⟩, c_named⟩, (by kernel_rfl)⟩, (by kernel_rfl)⟩, (by kernel_rfl)⟩, (by kernel_rfl)⟩, (by kernel_rfl)⟩, (by kernel_rfl)⟩, (by kernel_rfl)⟩, (by kernel_rfl)⟩, (by kernel_rfl)⟩, (by rw [pf_plainKeys]; rfl)⟩, (by kernel_rfl)⟩, pf_stopsHeard⟩, pf_mayEnter⟩, (by rw [pf_lifts]; rfl)⟩, pf_make⟩, (by kernel_rfl)⟩, (by kernel_rfl)⟩, (by kernel_rfl)⟩, (by kernel_rfl)⟩

theorem named : Try.pinned.checked.prog.funcNamed Rows.picksNoneRow.func = some 13 := by kernel_rfl
theorem inst : Try.f13.isInstance Try.pinned.checked.prog Rows.picksNoneRow.origin Rows.picksNoneRow.targs := of_decide_eq_true (by kernel_rfl)
theorem wrap : Try.f13.isWrapper Try.pinned.checked.prog Rows.picksNoneRow.wrapper Rows.picksNoneRow.mainSum := by
  unfold Func.isWrapper; rw [if_neg (by decide +kernel)]; exact ⟨rfl, rfl⟩

theorem over : Rows.picksNoneRow.holds Try.pinned (OpenSpec.ofChange Rows.picksNoneSpec) :=
  OpenClaim.holds_of_wide_leaving 13 Try.f13 rfl rfl rfl rfl rfl rfl rfl ⟨rfl, rfl, rfl, rfl, rfl⟩ rfl rfl rfl rfl rfl named Try.func13 closed inst wrap
    (fun os started H enc _ => leaving_of_handed (lifted os started H enc))

theorem proved : Rows.PicksNoneSaid := over
#print axioms proved
end Go.Proofs.Ytlfnoailaoiedaa.picksNone
