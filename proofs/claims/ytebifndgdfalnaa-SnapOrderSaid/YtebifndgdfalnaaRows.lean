/-
  No cell of these rows narrows 'for every input' (looked for: loops, veiled, ifaces, maps, wideKeys, modest, calm, conditions, laid).
  DERIVED. THE GIVEN ROWS OF THIS SEAT. 20 by the template 'for every input the law returns true; each argument reads behind the call as it read before'; 0 by the template 'total and deterministic' (their statements: YtebifndgdfalnaaTotals.lean).
  GIVEN WITH THE SEED: the statements are not yours to turn. If you find one false, say at which input.
  Laid BY PROGRAM, IN A SANDBOX (cutbox-rows.mjs): the forced cells as the released guide's own fill.sh prints them over the translation c5bfe235ed372c38… (all of the seat's roots in one cut). By AI agents, Wed Nov 11 2026. No macro, syntax, notation, axiom, sorry.
-/
import Derived.Test.YtebifndgdfalnaaChecked
import GoSem.Claim
import GoSem.ClaimJoined
import GoSem.ClaimMapViews
import Derived.JoinedTies
import Derived.KernelRfl
namespace Go.Proofs.Ytebifndgdfalnaa
/- THE CELL 'sum', in the pinned program and in every row, IS THE sha256 OF THE DUMP (.gsa) THAT YtebifndgdfalnaaProg.lean LOADS. Nothing in Lean hashes anything: it is a label: what it is worth is what the hold of that sum in a sandbox is worth. -/
noncomputable def Try.pinned : Pinned := { name := "ytebifndgdfalnaa", sum := "c5bfe235ed372c38a1e9fb4ced5e1d31940fc7c78856e82e759e946514024e6a", checked := Try.checked }
namespace Rows
def none {H : Type} : Left H := { results := [], args := [] }

/-- 'hackneylaw01.WordGoes': WHATEVER THE INPUT: true; the input reads as it did. -/
def wordGoesSpec : ChangeSpec := { name := "wordGoes", fn := fun _ => fun
  | [d1, d2] => { results := [.lit (.bool true)], args := [d1, d2] }
  | _ => none }
def wordGoesRow : OpenClaim := { program := "ytebifndgdfalnaa", sum := "c5bfe235ed372c38a1e9fb4ced5e1d31940fc7c78856e82e759e946514024e6a", func := "hackney/hackneylaw01.WordGoes", spec := "wordGoes", apart := false }
def WordGoesSaid : Prop := wordGoesRow.holds Try.pinned (OpenSpec.ofChange wordGoesSpec)

/-- ITS FALSE NEIGHBOUR: 'it returns false'. Refute it at one input. -/
def wordGoesWrong : ChangeSpec := { name := "wordGoes", fn := fun _ => fun
  | [d1, d2] => { results := [.lit (.bool false)], args := [d1, d2] }
  | _ => none }
def WordGoesWrongFalsely : Prop := wordGoesRow.holds Try.pinned (OpenSpec.ofChange wordGoesWrong)

/-- 'hackneylaw01.WordRounds': WHATEVER THE INPUT: true; the input reads as it did. -/
def wordRoundsSpec : ChangeSpec := { name := "wordRounds", fn := fun _ => fun
  | [d1, d2] => { results := [.lit (.bool true)], args := [d1, d2] }
  | _ => none }
def wordRoundsRow : OpenClaim := { program := "ytebifndgdfalnaa", sum := "c5bfe235ed372c38a1e9fb4ced5e1d31940fc7c78856e82e759e946514024e6a", func := "hackney/hackneylaw01.WordRounds", spec := "wordRounds", apart := false }
def WordRoundsSaid : Prop := wordRoundsRow.holds Try.pinned (OpenSpec.ofChange wordRoundsSpec)

/-- ITS FALSE NEIGHBOUR: 'it returns false'. Refute it at one input. -/
def wordRoundsWrong : ChangeSpec := { name := "wordRounds", fn := fun _ => fun
  | [d1, d2] => { results := [.lit (.bool false)], args := [d1, d2] }
  | _ => none }
def WordRoundsWrongFalsely : Prop := wordRoundsRow.holds Try.pinned (OpenSpec.ofChange wordRoundsWrong)

/-- 'hackneylaw01.WordTells': WHATEVER THE INPUT: true; the input reads as it did. -/
def wordTellsSpec : ChangeSpec := { name := "wordTells", fn := fun _ => fun
  | [d1, d2, d3, d4] => { results := [.lit (.bool true)], args := [d1, d2, d3, d4] }
  | _ => none }
def wordTellsRow : OpenClaim := { program := "ytebifndgdfalnaa", sum := "c5bfe235ed372c38a1e9fb4ced5e1d31940fc7c78856e82e759e946514024e6a", func := "hackney/hackneylaw01.WordTells", spec := "wordTells", apart := false }
def WordTellsSaid : Prop := wordTellsRow.holds Try.pinned (OpenSpec.ofChange wordTellsSpec)

/-- ITS FALSE NEIGHBOUR: 'it returns false'. Refute it at one input. -/
def wordTellsWrong : ChangeSpec := { name := "wordTells", fn := fun _ => fun
  | [d1, d2, d3, d4] => { results := [.lit (.bool false)], args := [d1, d2, d3, d4] }
  | _ => none }
def WordTellsWrongFalsely : Prop := wordTellsRow.holds Try.pinned (OpenSpec.ofChange wordTellsWrong)

/-- 'hackneylaw02.CellSwaps': WHATEVER THE INPUT: true; the input reads as it did. -/
def cellSwapsSpec : ChangeSpec := { name := "cellSwaps", fn := fun _ => fun
  | [d1, d2] => { results := [.lit (.bool true)], args := [d1, d2] }
  | _ => none }
def cellSwapsRow : OpenClaim := { program := "ytebifndgdfalnaa", sum := "c5bfe235ed372c38a1e9fb4ced5e1d31940fc7c78856e82e759e946514024e6a", func := "hackney/hackneylaw02.CellSwaps", spec := "cellSwaps", inPlace := ["sync/atomic.StoreUint64", "sync/atomic.CompareAndSwapUint64", "sync/atomic.LoadUint64"], apart := false }
def CellSwapsSaid : Prop := cellSwapsRow.holds Try.pinned (OpenSpec.ofChange cellSwapsSpec)

/-- ITS FALSE NEIGHBOUR: 'it returns false'. Refute it at one input. -/
def cellSwapsWrong : ChangeSpec := { name := "cellSwaps", fn := fun _ => fun
  | [d1, d2] => { results := [.lit (.bool false)], args := [d1, d2] }
  | _ => none }
def CellSwapsWrongFalsely : Prop := cellSwapsRow.holds Try.pinned (OpenSpec.ofChange cellSwapsWrong)

/-- 'hackneylaw02.CellNone': WHATEVER THE INPUT: true; the input reads as it did. -/
def cellNoneSpec : ChangeSpec := { name := "cellNone", fn := fun _ => fun
  | [] => { results := [.lit (.bool true)], args := [] }
  | _ => none }
def cellNoneRow : OpenClaim := { program := "ytebifndgdfalnaa", sum := "c5bfe235ed372c38a1e9fb4ced5e1d31940fc7c78856e82e759e946514024e6a", func := "hackney/hackneylaw02.CellNone", spec := "cellNone", inPlace := ["sync/atomic.CompareAndSwapUint64", "sync/atomic.LoadUint64", "sync/atomic.StoreUint64"], apart := false }
def CellNoneSaid : Prop := cellNoneRow.holds Try.pinned (OpenSpec.ofChange cellNoneSpec)

/-- ITS FALSE NEIGHBOUR: 'it returns false'. Refute it at one input. -/
def cellNoneWrong : ChangeSpec := { name := "cellNone", fn := fun _ => fun
  | [] => { results := [.lit (.bool false)], args := [] }
  | _ => none }
def CellNoneWrongFalsely : Prop := cellNoneRow.holds Try.pinned (OpenSpec.ofChange cellNoneWrong)

/-- 'hackneylaw04.ClockGoes': WHATEVER THE INPUT: true; the input reads as it did. -/
def clockGoesSpec : ChangeSpec := { name := "clockGoes", fn := fun _ => fun
  | [d1, d2, d3] => { results := [.lit (.bool true)], args := [d1, d2, d3] }
  | _ => none }
def clockGoesRow : OpenClaim := { program := "ytebifndgdfalnaa", sum := "c5bfe235ed372c38a1e9fb4ced5e1d31940fc7c78856e82e759e946514024e6a", func := "hackney/hackneylaw04.ClockGoes", spec := "clockGoes", inPlace := ["sync/atomic.StoreUint64", "sync/atomic.CompareAndSwapUint64", "sync/atomic.LoadUint64"], apart := false }
def ClockGoesSaid : Prop := clockGoesRow.holds Try.pinned (OpenSpec.ofChange clockGoesSpec)

/-- ITS FALSE NEIGHBOUR: 'it returns false'. Refute it at one input. -/
def clockGoesWrong : ChangeSpec := { name := "clockGoes", fn := fun _ => fun
  | [d1, d2, d3] => { results := [.lit (.bool false)], args := [d1, d2, d3] }
  | _ => none }
def ClockGoesWrongFalsely : Prop := clockGoesRow.holds Try.pinned (OpenSpec.ofChange clockGoesWrong)

/-- 'hackneylaw04.ClockTells': WHATEVER THE INPUT: true; the input reads as it did. -/
def clockTellsSpec : ChangeSpec := { name := "clockTells", fn := fun _ => fun
  | [d1, d2, d3] => { results := [.lit (.bool true)], args := [d1, d2, d3] }
  | _ => none }
def clockTellsRow : OpenClaim := { program := "ytebifndgdfalnaa", sum := "c5bfe235ed372c38a1e9fb4ced5e1d31940fc7c78856e82e759e946514024e6a", func := "hackney/hackneylaw04.ClockTells", spec := "clockTells", inPlace := ["sync/atomic.StoreUint64", "sync/atomic.CompareAndSwapUint64", "sync/atomic.LoadUint64"], apart := false }
def ClockTellsSaid : Prop := clockTellsRow.holds Try.pinned (OpenSpec.ofChange clockTellsSpec)

/-- ITS FALSE NEIGHBOUR: 'it returns false'. Refute it at one input. -/
def clockTellsWrong : ChangeSpec := { name := "clockTells", fn := fun _ => fun
  | [d1, d2, d3] => { results := [.lit (.bool false)], args := [d1, d2, d3] }
  | _ => none }
def ClockTellsWrongFalsely : Prop := clockTellsRow.holds Try.pinned (OpenSpec.ofChange clockTellsWrong)

/-- 'hackneylaw03.SnapTells': WHATEVER THE INPUT: true; the input reads as it did. -/
def snapTellsSpec : ChangeSpec := { name := "snapTells", fn := fun _ => fun
  | [d1, d2, d3, d4] => { results := [.lit (.bool true)], args := [d1, d2, d3, d4] }
  | _ => none }
def snapTellsRow : OpenClaim := { program := "ytebifndgdfalnaa", sum := "c5bfe235ed372c38a1e9fb4ced5e1d31940fc7c78856e82e759e946514024e6a", func := "hackney/hackneylaw03.SnapTells", spec := "snapTells", inPlace := ["sync/atomic.StoreUint64", "sync/atomic.CompareAndSwapUint64", "sync/atomic.LoadUint64"], apart := false }
def SnapTellsSaid : Prop := snapTellsRow.holds Try.pinned (OpenSpec.ofChange snapTellsSpec)

/-- ITS FALSE NEIGHBOUR: 'it returns false'. Refute it at one input. -/
def snapTellsWrong : ChangeSpec := { name := "snapTells", fn := fun _ => fun
  | [d1, d2, d3, d4] => { results := [.lit (.bool false)], args := [d1, d2, d3, d4] }
  | _ => none }
def SnapTellsWrongFalsely : Prop := snapTellsRow.holds Try.pinned (OpenSpec.ofChange snapTellsWrong)

/-- 'hackneylaw03.SnapOrder': WHATEVER THE INPUT: true; the input reads as it did. -/
def snapOrderSpec : ChangeSpec := { name := "snapOrder", fn := fun _ => fun
  | [d1, d2] => { results := [.lit (.bool true)], args := [d1, d2] }
  | _ => none }
def snapOrderRow : OpenClaim := { program := "ytebifndgdfalnaa", sum := "c5bfe235ed372c38a1e9fb4ced5e1d31940fc7c78856e82e759e946514024e6a", func := "hackney/hackneylaw03.SnapOrder", spec := "snapOrder", inPlace := ["sync/atomic.StoreUint64", "sync/atomic.CompareAndSwapUint64", "sync/atomic.LoadUint64"], apart := false }
def SnapOrderSaid : Prop := snapOrderRow.holds Try.pinned (OpenSpec.ofChange snapOrderSpec)

/-- ITS FALSE NEIGHBOUR: 'it returns false'. Refute it at one input. -/
def snapOrderWrong : ChangeSpec := { name := "snapOrder", fn := fun _ => fun
  | [d1, d2] => { results := [.lit (.bool false)], args := [d1, d2] }
  | _ => none }
def SnapOrderWrongFalsely : Prop := snapOrderRow.holds Try.pinned (OpenSpec.ofChange snapOrderWrong)

/-- 'hackneylaw02.CellOne': WHATEVER THE INPUT: true; the input reads as it did. -/
def cellOneSpec : ChangeSpec := { name := "cellOne", fn := fun _ => fun
  | [d1, d2, d3] => { results := [.lit (.bool true)], args := [d1, d2, d3] }
  | _ => none }
def cellOneRow : OpenClaim := { program := "ytebifndgdfalnaa", sum := "c5bfe235ed372c38a1e9fb4ced5e1d31940fc7c78856e82e759e946514024e6a", func := "hackney/hackneylaw02.CellOne", spec := "cellOne", inPlace := ["sync/atomic.StoreUint64", "sync/atomic.CompareAndSwapUint64", "sync/atomic.LoadUint64", "sync/atomic.AddInt64", "(*sync.WaitGroup).Go", "(*sync.WaitGroup).Add", "internal/race.ReleaseMerge", "internal/race.Disable", "internal/race.Enable", "internal/synctest.IsInBubble", "internal/synctest.Associate[sync.WaitGroup]", "sync.fatal", "sync/atomic.OrUint64", "sync/atomic.AddUint64", "internal/race.Read", "internal/synctest.Disassociate[sync.WaitGroup]", "sync.runtime_Semrelease", "(*sync.WaitGroup).Go$1", "(*sync.WaitGroup).Go$1$1", "(*sync.WaitGroup).Done", "(*sync.WaitGroup).Wait", "internal/race.Acquire", "internal/synctest.IsAssociated[sync.WaitGroup]", "internal/race.Write", "sync.runtime_SemacquireWaitGroup", "sync/atomic.LoadInt64"], unfollowed := true, recurses := true, leaving := true, apart := false }
def CellOneSaid : Prop := cellOneRow.holds Try.pinned (OpenSpec.ofChange cellOneSpec)

/-- ITS FALSE NEIGHBOUR: 'it returns false'. Refute it at one input. -/
def cellOneWrong : ChangeSpec := { name := "cellOne", fn := fun _ => fun
  | [d1, d2, d3] => { results := [.lit (.bool false)], args := [d1, d2, d3] }
  | _ => none }
def CellOneWrongFalsely : Prop := cellOneRow.holds Try.pinned (OpenSpec.ofChange cellOneWrong)

/-- 'hackneylaw03.SnapStays': WHATEVER THE INPUT: true; the input reads as it did. -/
def snapStaysSpec : ChangeSpec := { name := "snapStays", fn := fun _ => fun
  | [d1, d2] => { results := [.lit (.bool true)], args := [d1, d2] }
  | _ => none }
def snapStaysRow : OpenClaim := { program := "ytebifndgdfalnaa", sum := "c5bfe235ed372c38a1e9fb4ced5e1d31940fc7c78856e82e759e946514024e6a", func := "hackney/hackneylaw03.SnapStays", spec := "snapStays", inPlace := ["sync/atomic.StoreUint64", "sync/atomic.CompareAndSwapUint64", "sync/atomic.LoadUint64"], recurses := true, apart := false }
def SnapStaysSaid : Prop := snapStaysRow.holds Try.pinned (OpenSpec.ofChange snapStaysSpec)

/-- ITS FALSE NEIGHBOUR: 'it returns false'. Refute it at one input. -/
def snapStaysWrong : ChangeSpec := { name := "snapStays", fn := fun _ => fun
  | [d1, d2] => { results := [.lit (.bool false)], args := [d1, d2] }
  | _ => none }
def SnapStaysWrongFalsely : Prop := snapStaysRow.holds Try.pinned (OpenSpec.ofChange snapStaysWrong)

/-- 'hackneylaw05.WheelOnce': WHATEVER THE INPUT: true; the input reads as it did. -/
def wheelOnceSpec : ChangeSpec := { name := "wheelOnce", fn := fun _ => fun
  | [d1, d2] => { results := [.lit (.bool true)], args := [d1, d2] }
  | _ => none }
def wheelOnceRow : OpenClaim := { program := "ytebifndgdfalnaa", sum := "c5bfe235ed372c38a1e9fb4ced5e1d31940fc7c78856e82e759e946514024e6a", func := "hackney/hackneylaw05.WheelOnce", spec := "wheelOnce", inPlace := ["sync/atomic.StoreUint64", "sync/atomic.CompareAndSwapUint64", "sync/atomic.LoadUint64"], unfollowed := true, recurses := true, leaving := true, apart := false }
def WheelOnceSaid : Prop := wheelOnceRow.holds Try.pinned (OpenSpec.ofChange wheelOnceSpec)

/-- ITS FALSE NEIGHBOUR: 'it returns false'. Refute it at one input. -/
def wheelOnceWrong : ChangeSpec := { name := "wheelOnce", fn := fun _ => fun
  | [d1, d2] => { results := [.lit (.bool false)], args := [d1, d2] }
  | _ => none }
def WheelOnceWrongFalsely : Prop := wheelOnceRow.holds Try.pinned (OpenSpec.ofChange wheelOnceWrong)

/-- 'hackneylaw05.WheelAgain': WHATEVER THE INPUT: true; the input reads as it did. -/
def wheelAgainSpec : ChangeSpec := { name := "wheelAgain", fn := fun _ => fun
  | [d1, d2, d3, d4] => { results := [.lit (.bool true)], args := [d1, d2, d3, d4] }
  | _ => none }
def wheelAgainRow : OpenClaim := { program := "ytebifndgdfalnaa", sum := "c5bfe235ed372c38a1e9fb4ced5e1d31940fc7c78856e82e759e946514024e6a", func := "hackney/hackneylaw05.WheelAgain", spec := "wheelAgain", inPlace := ["sync/atomic.StoreUint64", "sync/atomic.CompareAndSwapUint64", "sync/atomic.LoadUint64", "maps.clone"], unfollowed := true, recurses := true, leaving := true, apart := false }
def WheelAgainSaid : Prop := wheelAgainRow.holds Try.pinned (OpenSpec.ofChange wheelAgainSpec)

/-- ITS FALSE NEIGHBOUR: 'it returns false'. Refute it at one input. -/
def wheelAgainWrong : ChangeSpec := { name := "wheelAgain", fn := fun _ => fun
  | [d1, d2, d3, d4] => { results := [.lit (.bool false)], args := [d1, d2, d3, d4] }
  | _ => none }
def WheelAgainWrongFalsely : Prop := wheelAgainRow.holds Try.pinned (OpenSpec.ofChange wheelAgainWrong)

/-- 'hackneylaw05.WheelPlays': WHATEVER THE INPUT: true; the input reads as it did. -/
def wheelPlaysSpec : ChangeSpec := { name := "wheelPlays", fn := fun _ => fun
  | [d] => { results := [.lit (.bool true)], args := [d] }
  | _ => none }
def wheelPlaysRow : OpenClaim := { program := "ytebifndgdfalnaa", sum := "c5bfe235ed372c38a1e9fb4ced5e1d31940fc7c78856e82e759e946514024e6a", func := "hackney/hackneylaw05.WheelPlays", spec := "wheelPlays", inPlace := ["sync/atomic.StoreUint64", "sync/atomic.CompareAndSwapUint64", "sync/atomic.LoadUint64", "maps.clone"], unfollowed := true, recurses := true, leaving := true, apart := false }
def WheelPlaysSaid : Prop := wheelPlaysRow.holds Try.pinned (OpenSpec.ofChange wheelPlaysSpec)

/-- ITS FALSE NEIGHBOUR: 'it returns false'. Refute it at one input. -/
def wheelPlaysWrong : ChangeSpec := { name := "wheelPlays", fn := fun _ => fun
  | [d] => { results := [.lit (.bool false)], args := [d] }
  | _ => none }
def WheelPlaysWrongFalsely : Prop := wheelPlaysRow.holds Try.pinned (OpenSpec.ofChange wheelPlaysWrong)

/-- 'hackneylaw05.WheelFull': WHATEVER THE INPUT: true; the input reads as it did. -/
def wheelFullSpec : ChangeSpec := { name := "wheelFull", fn := fun _ => fun
  | [] => { results := [.lit (.bool true)], args := [] }
  | _ => none }
def wheelFullRow : OpenClaim := { program := "ytebifndgdfalnaa", sum := "c5bfe235ed372c38a1e9fb4ced5e1d31940fc7c78856e82e759e946514024e6a", func := "hackney/hackneylaw05.WheelFull", spec := "wheelFull", inPlace := ["sync/atomic.StoreUint64", "sync/atomic.CompareAndSwapUint64", "sync/atomic.LoadUint64", "maps.clone"], unfollowed := true, recurses := true, leaving := true, apart := false }
def WheelFullSaid : Prop := wheelFullRow.holds Try.pinned (OpenSpec.ofChange wheelFullSpec)

/-- ITS FALSE NEIGHBOUR: 'it returns false'. Refute it at one input. -/
def wheelFullWrong : ChangeSpec := { name := "wheelFull", fn := fun _ => fun
  | [] => { results := [.lit (.bool false)], args := [] }
  | _ => none }
def WheelFullWrongFalsely : Prop := wheelFullRow.holds Try.pinned (OpenSpec.ofChange wheelFullWrong)

/-- 'hackneylaw07.GuardCatches': WHATEVER THE INPUT: true; the input reads as it did. -/
def guardCatchesSpec : ChangeSpec := { name := "guardCatches", fn := fun _ => fun
  | [d] => { results := [.lit (.bool true)], args := [d] }
  | _ => none }
def guardCatchesRow : OpenClaim := { program := "ytebifndgdfalnaa", sum := "c5bfe235ed372c38a1e9fb4ced5e1d31940fc7c78856e82e759e946514024e6a", func := "hackney/hackneylaw07.GuardCatches", spec := "guardCatches", inPlace := ["sync/atomic.StoreUint64", "sync/atomic.CompareAndSwapUint64", "sync/atomic.LoadUint64"], unfollowed := true, recurses := true, leaving := true, apart := false }
def GuardCatchesSaid : Prop := guardCatchesRow.holds Try.pinned (OpenSpec.ofChange guardCatchesSpec)

/-- ITS FALSE NEIGHBOUR: 'it returns false'. Refute it at one input. -/
def guardCatchesWrong : ChangeSpec := { name := "guardCatches", fn := fun _ => fun
  | [d] => { results := [.lit (.bool false)], args := [d] }
  | _ => none }
def GuardCatchesWrongFalsely : Prop := guardCatchesRow.holds Try.pinned (OpenSpec.ofChange guardCatchesWrong)

/-- 'hackneylaw07.GuardEnsures': WHATEVER THE INPUT: true; the input reads as it did. -/
def guardEnsuresSpec : ChangeSpec := { name := "guardEnsures", fn := fun _ => fun
  | [d] => { results := [.lit (.bool true)], args := [d] }
  | _ => none }
def guardEnsuresRow : OpenClaim := { program := "ytebifndgdfalnaa", sum := "c5bfe235ed372c38a1e9fb4ced5e1d31940fc7c78856e82e759e946514024e6a", func := "hackney/hackneylaw07.GuardEnsures", spec := "guardEnsures", inPlace := ["sync/atomic.StoreUint64", "sync/atomic.CompareAndSwapUint64", "sync/atomic.LoadUint64"], unfollowed := true, recurses := true, leaving := true, apart := false }
def GuardEnsuresSaid : Prop := guardEnsuresRow.holds Try.pinned (OpenSpec.ofChange guardEnsuresSpec)

/-- ITS FALSE NEIGHBOUR: 'it returns false'. Refute it at one input. -/
def guardEnsuresWrong : ChangeSpec := { name := "guardEnsures", fn := fun _ => fun
  | [d] => { results := [.lit (.bool false)], args := [d] }
  | _ => none }
def GuardEnsuresWrongFalsely : Prop := guardEnsuresRow.holds Try.pinned (OpenSpec.ofChange guardEnsuresWrong)

/-- 'hackneylaw08.PicksScript': WHATEVER THE INPUT: true; the input reads as it did. -/
def picksScriptSpec : ChangeSpec := { name := "picksScript", fn := fun _ => fun
  | [d1, d2] => { results := [.lit (.bool true)], args := [d1, d2] }
  | _ => none }
def picksScriptRow : OpenClaim := { program := "ytebifndgdfalnaa", sum := "c5bfe235ed372c38a1e9fb4ced5e1d31940fc7c78856e82e759e946514024e6a", func := "hackney/hackneylaw08.PicksScript", spec := "picksScript", inPlace := ["sync/atomic.StoreUint64", "sync/atomic.CompareAndSwapUint64", "sync/atomic.LoadUint64"], unfollowed := true, recurses := true, leaving := true, apart := false }
def PicksScriptSaid : Prop := picksScriptRow.holds Try.pinned (OpenSpec.ofChange picksScriptSpec)

/-- ITS FALSE NEIGHBOUR: 'it returns false'. Refute it at one input. -/
def picksScriptWrong : ChangeSpec := { name := "picksScript", fn := fun _ => fun
  | [d1, d2] => { results := [.lit (.bool false)], args := [d1, d2] }
  | _ => none }
def PicksScriptWrongFalsely : Prop := picksScriptRow.holds Try.pinned (OpenSpec.ofChange picksScriptWrong)

/-- 'hackneylaw08.PicksTurn': WHATEVER THE INPUT: true; the input reads as it did. -/
def picksTurnSpec : ChangeSpec := { name := "picksTurn", fn := fun _ => fun
  | [d1, d2, d3] => { results := [.lit (.bool true)], args := [d1, d2, d3] }
  | _ => none }
def picksTurnRow : OpenClaim := { program := "ytebifndgdfalnaa", sum := "c5bfe235ed372c38a1e9fb4ced5e1d31940fc7c78856e82e759e946514024e6a", func := "hackney/hackneylaw08.PicksTurn", spec := "picksTurn", inPlace := ["sync/atomic.StoreUint64", "sync/atomic.CompareAndSwapUint64", "sync/atomic.LoadUint64"], unfollowed := true, recurses := true, leaving := true, apart := false }
def PicksTurnSaid : Prop := picksTurnRow.holds Try.pinned (OpenSpec.ofChange picksTurnSpec)

/-- ITS FALSE NEIGHBOUR: 'it returns false'. Refute it at one input. -/
def picksTurnWrong : ChangeSpec := { name := "picksTurn", fn := fun _ => fun
  | [d1, d2, d3] => { results := [.lit (.bool false)], args := [d1, d2, d3] }
  | _ => none }
def PicksTurnWrongFalsely : Prop := picksTurnRow.holds Try.pinned (OpenSpec.ofChange picksTurnWrong)

/-- 'hackneylaw08.PicksNone': WHATEVER THE INPUT: true; the input reads as it did. -/
def picksNoneSpec : ChangeSpec := { name := "picksNone", fn := fun _ => fun
  | [] => { results := [.lit (.bool true)], args := [] }
  | _ => none }
def picksNoneRow : OpenClaim := { program := "ytebifndgdfalnaa", sum := "c5bfe235ed372c38a1e9fb4ced5e1d31940fc7c78856e82e759e946514024e6a", func := "hackney/hackneylaw08.PicksNone", spec := "picksNone", inPlace := ["sync/atomic.StoreUint64", "sync/atomic.CompareAndSwapUint64", "sync/atomic.LoadUint64"], unfollowed := true, recurses := true, leaving := true, apart := false }
def PicksNoneSaid : Prop := picksNoneRow.holds Try.pinned (OpenSpec.ofChange picksNoneSpec)

/-- ITS FALSE NEIGHBOUR: 'it returns false'. Refute it at one input. -/
def picksNoneWrong : ChangeSpec := { name := "picksNone", fn := fun _ => fun
  | [] => { results := [.lit (.bool false)], args := [] }
  | _ => none }
def PicksNoneWrongFalsely : Prop := picksNoneRow.holds Try.pinned (OpenSpec.ofChange picksNoneWrong)

/- THE SECOND FORM. 'bulk': how many values and letters a reading holds, each counted each time it is reached (what is shared counts as often as it is met; a slice's spare places count too). A statement '..UptoSaid' is the law's where the arguments, and the package variables that the reading takes, are together of bulk at most 1048576: NARROWER than '..Said'. Prove '..Said' where nothing that the law and all that it calls make is longer than what came in: it says more and counts as full. Else prove '..UptoSaid'. A law counts once. -/
mutual
def uptoBulk {H : Type} : DataW H → Nat
  | .lit (.string bytes) => bytes.length + 1
  | .lit _ => 1
  | .nil => 1
  | .ptr d => uptoBulk d + 1
  | .slice elems spare => uptoBulkAll elems + uptoBulkAll spare + 1
  | .agg parts => uptoBulkAll parts + 1
  | .iface _ d => uptoBulk d + 1
  | .map entries => uptoBulkEntries entries + 1
  | .held _ => 1
def uptoBulkAll {H : Type} : List (DataW H) → Nat
  | [] => 0
  | d :: r => uptoBulk d + uptoBulkAll r
def uptoBulkEntries {H : Type} : List (Lit × DataW H) → Nat
  | [] => 0
  | x :: r => uptoBulkEntry x + uptoBulkEntries r
def uptoBulkEntry {H : Type} : Lit × DataW H → Nat
  | (.string bytes, d) => bytes.length + uptoBulk d + 1
  | (_, d) => uptoBulk d + 1
 end
def uptoSmall : (H : Type) → List (DataW H) → Bool := fun _ ds => decide (uptoBulkAll ds ≤ 1048576)
def OpenSpec.upto (s : _root_.Go.ChangeSpec) : _root_.Go.OpenSpec := { _root_.Go.OpenSpec.ofChange s with cond := some uptoSmall }

/-- 'hackneylaw01.WordGoes', WHERE WHAT IT READS IS OF BULK AT MOST 1048576: true; the input reads as it did. -/
def wordGoesUptoRow : OpenClaim := { program := "ytebifndgdfalnaa", sum := "c5bfe235ed372c38a1e9fb4ced5e1d31940fc7c78856e82e759e946514024e6a", func := "hackney/hackneylaw01.WordGoes", spec := "wordGoes", apart := false, narrowed := true }
def WordGoesUptoSaid : Prop := wordGoesUptoRow.holds Try.pinned (OpenSpec.upto wordGoesSpec)

/-- 'hackneylaw01.WordRounds', WHERE WHAT IT READS IS OF BULK AT MOST 1048576: true; the input reads as it did. -/
def wordRoundsUptoRow : OpenClaim := { program := "ytebifndgdfalnaa", sum := "c5bfe235ed372c38a1e9fb4ced5e1d31940fc7c78856e82e759e946514024e6a", func := "hackney/hackneylaw01.WordRounds", spec := "wordRounds", apart := false, narrowed := true }
def WordRoundsUptoSaid : Prop := wordRoundsUptoRow.holds Try.pinned (OpenSpec.upto wordRoundsSpec)

/-- 'hackneylaw01.WordTells', WHERE WHAT IT READS IS OF BULK AT MOST 1048576: true; the input reads as it did. -/
def wordTellsUptoRow : OpenClaim := { program := "ytebifndgdfalnaa", sum := "c5bfe235ed372c38a1e9fb4ced5e1d31940fc7c78856e82e759e946514024e6a", func := "hackney/hackneylaw01.WordTells", spec := "wordTells", apart := false, narrowed := true }
def WordTellsUptoSaid : Prop := wordTellsUptoRow.holds Try.pinned (OpenSpec.upto wordTellsSpec)

/-- 'hackneylaw02.CellSwaps', WHERE WHAT IT READS IS OF BULK AT MOST 1048576: true; the input reads as it did. -/
def cellSwapsUptoRow : OpenClaim := { program := "ytebifndgdfalnaa", sum := "c5bfe235ed372c38a1e9fb4ced5e1d31940fc7c78856e82e759e946514024e6a", func := "hackney/hackneylaw02.CellSwaps", spec := "cellSwaps", inPlace := ["sync/atomic.StoreUint64", "sync/atomic.CompareAndSwapUint64", "sync/atomic.LoadUint64"], apart := false, narrowed := true }
def CellSwapsUptoSaid : Prop := cellSwapsUptoRow.holds Try.pinned (OpenSpec.upto cellSwapsSpec)

/-- 'hackneylaw02.CellNone', WHERE WHAT IT READS IS OF BULK AT MOST 1048576: true; the input reads as it did. -/
def cellNoneUptoRow : OpenClaim := { program := "ytebifndgdfalnaa", sum := "c5bfe235ed372c38a1e9fb4ced5e1d31940fc7c78856e82e759e946514024e6a", func := "hackney/hackneylaw02.CellNone", spec := "cellNone", inPlace := ["sync/atomic.CompareAndSwapUint64", "sync/atomic.LoadUint64", "sync/atomic.StoreUint64"], apart := false, narrowed := true }
def CellNoneUptoSaid : Prop := cellNoneUptoRow.holds Try.pinned (OpenSpec.upto cellNoneSpec)

/-- 'hackneylaw04.ClockGoes', WHERE WHAT IT READS IS OF BULK AT MOST 1048576: true; the input reads as it did. -/
def clockGoesUptoRow : OpenClaim := { program := "ytebifndgdfalnaa", sum := "c5bfe235ed372c38a1e9fb4ced5e1d31940fc7c78856e82e759e946514024e6a", func := "hackney/hackneylaw04.ClockGoes", spec := "clockGoes", inPlace := ["sync/atomic.StoreUint64", "sync/atomic.CompareAndSwapUint64", "sync/atomic.LoadUint64"], apart := false, narrowed := true }
def ClockGoesUptoSaid : Prop := clockGoesUptoRow.holds Try.pinned (OpenSpec.upto clockGoesSpec)

/-- 'hackneylaw04.ClockTells', WHERE WHAT IT READS IS OF BULK AT MOST 1048576: true; the input reads as it did. -/
def clockTellsUptoRow : OpenClaim := { program := "ytebifndgdfalnaa", sum := "c5bfe235ed372c38a1e9fb4ced5e1d31940fc7c78856e82e759e946514024e6a", func := "hackney/hackneylaw04.ClockTells", spec := "clockTells", inPlace := ["sync/atomic.StoreUint64", "sync/atomic.CompareAndSwapUint64", "sync/atomic.LoadUint64"], apart := false, narrowed := true }
def ClockTellsUptoSaid : Prop := clockTellsUptoRow.holds Try.pinned (OpenSpec.upto clockTellsSpec)

/-- 'hackneylaw03.SnapTells', WHERE WHAT IT READS IS OF BULK AT MOST 1048576: true; the input reads as it did. -/
def snapTellsUptoRow : OpenClaim := { program := "ytebifndgdfalnaa", sum := "c5bfe235ed372c38a1e9fb4ced5e1d31940fc7c78856e82e759e946514024e6a", func := "hackney/hackneylaw03.SnapTells", spec := "snapTells", inPlace := ["sync/atomic.StoreUint64", "sync/atomic.CompareAndSwapUint64", "sync/atomic.LoadUint64"], apart := false, narrowed := true }
def SnapTellsUptoSaid : Prop := snapTellsUptoRow.holds Try.pinned (OpenSpec.upto snapTellsSpec)

/-- 'hackneylaw03.SnapOrder', WHERE WHAT IT READS IS OF BULK AT MOST 1048576: true; the input reads as it did. -/
def snapOrderUptoRow : OpenClaim := { program := "ytebifndgdfalnaa", sum := "c5bfe235ed372c38a1e9fb4ced5e1d31940fc7c78856e82e759e946514024e6a", func := "hackney/hackneylaw03.SnapOrder", spec := "snapOrder", inPlace := ["sync/atomic.StoreUint64", "sync/atomic.CompareAndSwapUint64", "sync/atomic.LoadUint64"], apart := false, narrowed := true }
def SnapOrderUptoSaid : Prop := snapOrderUptoRow.holds Try.pinned (OpenSpec.upto snapOrderSpec)

/-- 'hackneylaw02.CellOne', WHERE WHAT IT READS IS OF BULK AT MOST 1048576: true; the input reads as it did. -/
def cellOneUptoRow : OpenClaim := { program := "ytebifndgdfalnaa", sum := "c5bfe235ed372c38a1e9fb4ced5e1d31940fc7c78856e82e759e946514024e6a", func := "hackney/hackneylaw02.CellOne", spec := "cellOne", inPlace := ["sync/atomic.StoreUint64", "sync/atomic.CompareAndSwapUint64", "sync/atomic.LoadUint64", "sync/atomic.AddInt64", "(*sync.WaitGroup).Go", "(*sync.WaitGroup).Add", "internal/race.ReleaseMerge", "internal/race.Disable", "internal/race.Enable", "internal/synctest.IsInBubble", "internal/synctest.Associate[sync.WaitGroup]", "sync.fatal", "sync/atomic.OrUint64", "sync/atomic.AddUint64", "internal/race.Read", "internal/synctest.Disassociate[sync.WaitGroup]", "sync.runtime_Semrelease", "(*sync.WaitGroup).Go$1", "(*sync.WaitGroup).Go$1$1", "(*sync.WaitGroup).Done", "(*sync.WaitGroup).Wait", "internal/race.Acquire", "internal/synctest.IsAssociated[sync.WaitGroup]", "internal/race.Write", "sync.runtime_SemacquireWaitGroup", "sync/atomic.LoadInt64"], unfollowed := true, recurses := true, leaving := true, apart := false, narrowed := true }
def CellOneUptoSaid : Prop := cellOneUptoRow.holds Try.pinned (OpenSpec.upto cellOneSpec)

/-- 'hackneylaw03.SnapStays', WHERE WHAT IT READS IS OF BULK AT MOST 1048576: true; the input reads as it did. -/
def snapStaysUptoRow : OpenClaim := { program := "ytebifndgdfalnaa", sum := "c5bfe235ed372c38a1e9fb4ced5e1d31940fc7c78856e82e759e946514024e6a", func := "hackney/hackneylaw03.SnapStays", spec := "snapStays", inPlace := ["sync/atomic.StoreUint64", "sync/atomic.CompareAndSwapUint64", "sync/atomic.LoadUint64"], recurses := true, apart := false, narrowed := true }
def SnapStaysUptoSaid : Prop := snapStaysUptoRow.holds Try.pinned (OpenSpec.upto snapStaysSpec)

/-- 'hackneylaw05.WheelOnce', WHERE WHAT IT READS IS OF BULK AT MOST 1048576: true; the input reads as it did. -/
def wheelOnceUptoRow : OpenClaim := { program := "ytebifndgdfalnaa", sum := "c5bfe235ed372c38a1e9fb4ced5e1d31940fc7c78856e82e759e946514024e6a", func := "hackney/hackneylaw05.WheelOnce", spec := "wheelOnce", inPlace := ["sync/atomic.StoreUint64", "sync/atomic.CompareAndSwapUint64", "sync/atomic.LoadUint64"], unfollowed := true, recurses := true, leaving := true, apart := false, narrowed := true }
def WheelOnceUptoSaid : Prop := wheelOnceUptoRow.holds Try.pinned (OpenSpec.upto wheelOnceSpec)

/-- 'hackneylaw05.WheelAgain', WHERE WHAT IT READS IS OF BULK AT MOST 1048576: true; the input reads as it did. -/
def wheelAgainUptoRow : OpenClaim := { program := "ytebifndgdfalnaa", sum := "c5bfe235ed372c38a1e9fb4ced5e1d31940fc7c78856e82e759e946514024e6a", func := "hackney/hackneylaw05.WheelAgain", spec := "wheelAgain", inPlace := ["sync/atomic.StoreUint64", "sync/atomic.CompareAndSwapUint64", "sync/atomic.LoadUint64", "maps.clone"], unfollowed := true, recurses := true, leaving := true, apart := false, narrowed := true }
def WheelAgainUptoSaid : Prop := wheelAgainUptoRow.holds Try.pinned (OpenSpec.upto wheelAgainSpec)

/-- 'hackneylaw05.WheelPlays', WHERE WHAT IT READS IS OF BULK AT MOST 1048576: true; the input reads as it did. -/
def wheelPlaysUptoRow : OpenClaim := { program := "ytebifndgdfalnaa", sum := "c5bfe235ed372c38a1e9fb4ced5e1d31940fc7c78856e82e759e946514024e6a", func := "hackney/hackneylaw05.WheelPlays", spec := "wheelPlays", inPlace := ["sync/atomic.StoreUint64", "sync/atomic.CompareAndSwapUint64", "sync/atomic.LoadUint64", "maps.clone"], unfollowed := true, recurses := true, leaving := true, apart := false, narrowed := true }
def WheelPlaysUptoSaid : Prop := wheelPlaysUptoRow.holds Try.pinned (OpenSpec.upto wheelPlaysSpec)

/-- 'hackneylaw05.WheelFull', WHERE WHAT IT READS IS OF BULK AT MOST 1048576: true; the input reads as it did. -/
def wheelFullUptoRow : OpenClaim := { program := "ytebifndgdfalnaa", sum := "c5bfe235ed372c38a1e9fb4ced5e1d31940fc7c78856e82e759e946514024e6a", func := "hackney/hackneylaw05.WheelFull", spec := "wheelFull", inPlace := ["sync/atomic.StoreUint64", "sync/atomic.CompareAndSwapUint64", "sync/atomic.LoadUint64", "maps.clone"], unfollowed := true, recurses := true, leaving := true, apart := false, narrowed := true }
def WheelFullUptoSaid : Prop := wheelFullUptoRow.holds Try.pinned (OpenSpec.upto wheelFullSpec)

/-- 'hackneylaw07.GuardCatches', WHERE WHAT IT READS IS OF BULK AT MOST 1048576: true; the input reads as it did. -/
def guardCatchesUptoRow : OpenClaim := { program := "ytebifndgdfalnaa", sum := "c5bfe235ed372c38a1e9fb4ced5e1d31940fc7c78856e82e759e946514024e6a", func := "hackney/hackneylaw07.GuardCatches", spec := "guardCatches", inPlace := ["sync/atomic.StoreUint64", "sync/atomic.CompareAndSwapUint64", "sync/atomic.LoadUint64"], unfollowed := true, recurses := true, leaving := true, apart := false, narrowed := true }
def GuardCatchesUptoSaid : Prop := guardCatchesUptoRow.holds Try.pinned (OpenSpec.upto guardCatchesSpec)

/-- 'hackneylaw07.GuardEnsures', WHERE WHAT IT READS IS OF BULK AT MOST 1048576: true; the input reads as it did. -/
def guardEnsuresUptoRow : OpenClaim := { program := "ytebifndgdfalnaa", sum := "c5bfe235ed372c38a1e9fb4ced5e1d31940fc7c78856e82e759e946514024e6a", func := "hackney/hackneylaw07.GuardEnsures", spec := "guardEnsures", inPlace := ["sync/atomic.StoreUint64", "sync/atomic.CompareAndSwapUint64", "sync/atomic.LoadUint64"], unfollowed := true, recurses := true, leaving := true, apart := false, narrowed := true }
def GuardEnsuresUptoSaid : Prop := guardEnsuresUptoRow.holds Try.pinned (OpenSpec.upto guardEnsuresSpec)

/-- 'hackneylaw08.PicksScript', WHERE WHAT IT READS IS OF BULK AT MOST 1048576: true; the input reads as it did. -/
def picksScriptUptoRow : OpenClaim := { program := "ytebifndgdfalnaa", sum := "c5bfe235ed372c38a1e9fb4ced5e1d31940fc7c78856e82e759e946514024e6a", func := "hackney/hackneylaw08.PicksScript", spec := "picksScript", inPlace := ["sync/atomic.StoreUint64", "sync/atomic.CompareAndSwapUint64", "sync/atomic.LoadUint64"], unfollowed := true, recurses := true, leaving := true, apart := false, narrowed := true }
def PicksScriptUptoSaid : Prop := picksScriptUptoRow.holds Try.pinned (OpenSpec.upto picksScriptSpec)

/-- 'hackneylaw08.PicksTurn', WHERE WHAT IT READS IS OF BULK AT MOST 1048576: true; the input reads as it did. -/
def picksTurnUptoRow : OpenClaim := { program := "ytebifndgdfalnaa", sum := "c5bfe235ed372c38a1e9fb4ced5e1d31940fc7c78856e82e759e946514024e6a", func := "hackney/hackneylaw08.PicksTurn", spec := "picksTurn", inPlace := ["sync/atomic.StoreUint64", "sync/atomic.CompareAndSwapUint64", "sync/atomic.LoadUint64"], unfollowed := true, recurses := true, leaving := true, apart := false, narrowed := true }
def PicksTurnUptoSaid : Prop := picksTurnUptoRow.holds Try.pinned (OpenSpec.upto picksTurnSpec)

/-- 'hackneylaw08.PicksNone', WHERE WHAT IT READS IS OF BULK AT MOST 1048576: true; the input reads as it did. -/
def picksNoneUptoRow : OpenClaim := { program := "ytebifndgdfalnaa", sum := "c5bfe235ed372c38a1e9fb4ced5e1d31940fc7c78856e82e759e946514024e6a", func := "hackney/hackneylaw08.PicksNone", spec := "picksNone", inPlace := ["sync/atomic.StoreUint64", "sync/atomic.CompareAndSwapUint64", "sync/atomic.LoadUint64"], unfollowed := true, recurses := true, leaving := true, apart := false, narrowed := true }
def PicksNoneUptoSaid : Prop := picksNoneUptoRow.holds Try.pinned (OpenSpec.upto picksNoneSpec)

end Rows
end Go.Proofs.Ytebifndgdfalnaa
