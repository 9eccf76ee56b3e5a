/- A call that leaves nobody behind satisfies a row that says 'leaving'. -/
import Derived.Conc.Holds
import Derived.Handed
import Derived.ProofKit
namespace Go.Proofs.Ytlfnoailaoiedaa
open Go

theorem leaving_of_alone {P : Program} {last : Machine} {w : World} {t : Trace} (h : aloneAtReturn P last w t) : leavingAtReturn P last w t := by
  obtain ⟨⟨h1, h2⟩, h3, h4⟩ := h
  refine ⟨h3, ⟨fun g hg => ⟨0, ?_⟩, h2⟩, h4⟩
  unfold Machine.othersDone at h1
  show g.status = .finished
  simp only [List.all_eq_true] at h1
  simpa using h1 g (by simpa using hg)
theorem leaving_of_handed {a : Assume} {C : Checked} {os : Os} {f : FuncId} {r : Reach} {Pre : World → Array Value → Prop} {Post : World → Array Value → Value → World → Prop}
    (h : ReturnsInHanded a C os f r Pre Post) : ReturnsInLeavingWide a C os f r Pre Post := fun hm => by
  obtain ⟨h1, h2, h3, h4, h5⟩ := h hm
  refine ⟨h1, h2, h3, h4, fun w tape i hf => ?_⟩
  obtain ⟨n, v, w', k1, k2, k3, k4, ⟨j, last, k5, k6, k7⟩, k8⟩ := h5 w tape i hf
  exact ⟨n, v, w', k1, k2, k3, k4, ⟨j, last, k5, k6, leaving_of_alone k7⟩, k8⟩
end Go.Proofs.Ytlfnoailaoiedaa
