/- Closed facts on the program, each reckoned once by the kernel. -/
import Derived.Test.YtonfaojmphidpaaGreatDoorRows
import Derived.JoinedOf
import Derived.KernelRfl
import Derived.ProofKit
namespace Go.Proofs.YtonfaojmphidpaaGreatDoor
theorem pf_own : ownKnob Tryz.prog.godebug = none := by kernel_rfl
theorem pf_laidOut : laidOutB Tryz.prog = true := by kernel_rfl
theorem pf_mapsRowed : mapsRowed Tryz.prog = true := by kernel_rfl
theorem pf_stops : (Tryz.prog.stops == []) = true := by kernel_rfl
theorem pf_stopKnobs : (Tryz.prog.stopKnobs == []) = true := by kernel_rfl
theorem pf_plainKeys : Tryz.prog.plainKeys = true := by kernel_rfl
theorem pf_stopsHeard : Tryz.prog.stopsHeard = true := by kernel_rfl
theorem pf_mayEnter : Tryz.prog.mayEnter = true := by kernel_rfl
theorem pf_lifts : Tryz.prog.liftsFinal = false := by kernel_rfl
theorem pf_make : (Tryz.prog.make == some .cut) = true := by kernel_rfl
end Go.Proofs.YtonfaojmphidpaaGreatDoor
