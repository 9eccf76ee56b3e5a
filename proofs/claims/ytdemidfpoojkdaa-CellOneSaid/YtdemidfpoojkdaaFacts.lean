/- Closed facts on the program, each reckoned once by the kernel. -/
import Derived.Test.YtdemidfpoojkdaaRows
import Derived.JoinedOf
import Derived.KernelRfl
import Derived.ProofKit
namespace Go.Proofs.Ytdemidfpoojkdaa
theorem pf_own : ownKnob Try.prog.godebug = none := by kernel_rfl
theorem pf_laidOut : laidOutB Try.prog = true := by kernel_rfl
theorem pf_mapsRowed : mapsRowed Try.prog = true := by kernel_rfl
theorem pf_stops : (Try.prog.stops == []) = true := by kernel_rfl
theorem pf_stopKnobs : (Try.prog.stopKnobs == []) = true := by kernel_rfl
theorem pf_plainKeys : Try.prog.plainKeys = true := by kernel_rfl
theorem pf_stopsHeard : Try.prog.stopsHeard = true := by kernel_rfl
theorem pf_mayEnter : Try.prog.mayEnter = true := by kernel_rfl
theorem pf_lifts : Try.prog.liftsFinal = false := by kernel_rfl
theorem pf_make : (Try.prog.make == some .cut) = true := by kernel_rfl
end Go.Proofs.Ytdemidfpoojkdaa
