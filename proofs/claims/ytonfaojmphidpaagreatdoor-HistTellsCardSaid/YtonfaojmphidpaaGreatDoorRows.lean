/-
  NARROWER THAN 'FOR EVERY INPUT', by the rows' own cells (each row's printed sentence says how): FactoryOnce: laid · FactoryPlays: laid · FactoryNone: laid · SlotsOrder: laid · SlotsPlay: laid · SlotsNone: laid · LocalPlays: laid · LocalLast: laid · SlotsLeave: laid · HistTells: laid · HistStays: laid.
  DERIVED. THE GIVEN ROWS OF THIS SEAT. 11 by the template 'for every input the law returns true; each argument reads behind the call as it read before'; 0 by the template 'total and deterministic' (their statements: YtonfaojmphidpaaGreatDoorTotals.lean).
  GIVEN WITH THE SEED: the statements are not yours to turn. If you find one false, say at which input.
  Laid BY PROGRAM, IN A SANDBOX (cutbox-rows.mjs): the forced cells as the released guide's own fill.sh prints them over the translation 41305f3ba18829be… (all of the seat's roots in one cut). By AI agents, Wed Nov 11 2026. No macro, syntax, notation, axiom, sorry.
-/
import Derived.Test.YtonfaojmphidpaaGreatDoorChecked
import GoSem.Claim
import GoSem.ClaimJoined
import GoSem.ClaimMapViews
import Derived.JoinedTies
import Derived.KernelRfl
namespace Go.Proofs.YtonfaojmphidpaaGreatDoor
/- THE CELL 'sum', in the pinned program and in every row, IS THE sha256 OF THE DUMP (.gsa) THAT YtonfaojmphidpaaGreatDoorProg.lean LOADS. Nothing in Lean hashes anything: it is a label: what it is worth is what the hold of that sum in a sandbox is worth. -/
noncomputable def Tryz.pinned : Pinned := { name := "ytonfaojmphidpaagreatdoor", sum := "41305f3ba18829be2b1c463c89f8c00f3125c37a1c20c4c982ce951adde4782e", checked := Tryz.checked }
namespace Rows
def none {H : Type} : Left H := { results := [], args := [] }

/- WHAT THE LISTED PACKAGE-LEVEL VARIABLES READ AS WHEN THE CALL BEGINS. Each datum BY PROGRAM (the guide's laid-datum.mjs) off the statement by which the dump's own 'gosem.cut.vars' lays the variable. In a bare row this is a premise. The card (YtonfaojmphidpaaGreatDoorCards.lean) ties it to the program's text. -/
def laid_math_bits_deBruijn32tab {H : Type} : DataW H := .agg [.lit (.int .u8 0), .lit (.int .u8 1), .lit (.int .u8 28), .lit (.int .u8 2), .lit (.int .u8 29), .lit (.int .u8 14), .lit (.int .u8 24), .lit (.int .u8 3), .lit (.int .u8 30), .lit (.int .u8 22), .lit (.int .u8 20), .lit (.int .u8 15), .lit (.int .u8 25), .lit (.int .u8 17), .lit (.int .u8 4), .lit (.int .u8 8), .lit (.int .u8 31), .lit (.int .u8 27), .lit (.int .u8 13), .lit (.int .u8 23), .lit (.int .u8 21), .lit (.int .u8 19), .lit (.int .u8 16), .lit (.int .u8 7), .lit (.int .u8 26), .lit (.int .u8 12), .lit (.int .u8 18), .lit (.int .u8 6), .lit (.int .u8 11), .lit (.int .u8 5), .lit (.int .u8 10), .lit (.int .u8 9)]
def laid_math_bits_deBruijn64tab {H : Type} : DataW H := .agg [.lit (.int .u8 0), .lit (.int .u8 1), .lit (.int .u8 56), .lit (.int .u8 2), .lit (.int .u8 57), .lit (.int .u8 49), .lit (.int .u8 28), .lit (.int .u8 3), .lit (.int .u8 61), .lit (.int .u8 58), .lit (.int .u8 42), .lit (.int .u8 50), .lit (.int .u8 38), .lit (.int .u8 29), .lit (.int .u8 17), .lit (.int .u8 4), .lit (.int .u8 62), .lit (.int .u8 47), .lit (.int .u8 59), .lit (.int .u8 36), .lit (.int .u8 45), .lit (.int .u8 43), .lit (.int .u8 51), .lit (.int .u8 22), .lit (.int .u8 53), .lit (.int .u8 39), .lit (.int .u8 33), .lit (.int .u8 30), .lit (.int .u8 24), .lit (.int .u8 18), .lit (.int .u8 12), .lit (.int .u8 5), .lit (.int .u8 63), .lit (.int .u8 55), .lit (.int .u8 48), .lit (.int .u8 27), .lit (.int .u8 60), .lit (.int .u8 41), .lit (.int .u8 37), .lit (.int .u8 16), .lit (.int .u8 46), .lit (.int .u8 35), .lit (.int .u8 44), .lit (.int .u8 21), .lit (.int .u8 52), .lit (.int .u8 32), .lit (.int .u8 23), .lit (.int .u8 11), .lit (.int .u8 54), .lit (.int .u8 26), .lit (.int .u8 40), .lit (.int .u8 15), .lit (.int .u8 34), .lit (.int .u8 20), .lit (.int .u8 31), .lit (.int .u8 10), .lit (.int .u8 25), .lit (.int .u8 14), .lit (.int .u8 19), .lit (.int .u8 9), .lit (.int .u8 13), .lit (.int .u8 8), .lit (.int .u8 7), .lit (.int .u8 6)]
def laid_internal_strconv_uint64pow10 {H : Type} : DataW H := .agg [.lit (.int .u64 1), .lit (.int .u64 10), .lit (.int .u64 100), .lit (.int .u64 1000), .lit (.int .u64 10000), .lit (.int .u64 100000), .lit (.int .u64 1000000), .lit (.int .u64 10000000), .lit (.int .u64 100000000), .lit (.int .u64 1000000000), .lit (.int .u64 10000000000), .lit (.int .u64 100000000000), .lit (.int .u64 1000000000000), .lit (.int .u64 10000000000000), .lit (.int .u64 100000000000000), .lit (.int .u64 1000000000000000), .lit (.int .u64 10000000000000000), .lit (.int .u64 100000000000000000), .lit (.int .u64 1000000000000000000), .lit (.int .u64 10000000000000000000)]

/-- 'hackneylaw10.FactoryOnce': WHATEVER THE INPUT: true; the input reads as it did. -/
def factoryOnceSpec : ChangeSpec := { name := "factoryOnce", fn := fun _ => fun
  | [d1, d2] => { results := [.lit (.bool true)], args := [d1, d2] }
  | _ => none }
def factoryOnceRow : OpenClaim := { program := "ytonfaojmphidpaagreatdoor", sum := "41305f3ba18829be2b1c463c89f8c00f3125c37a1c20c4c982ce951adde4782e", func := "hackney/hackneylaw10.FactoryOnce", spec := "factoryOnce", inPlace := ["sync/atomic.StoreUint64", "sync/atomic.CompareAndSwapUint64", "sync/atomic.LoadUint64", "internal/abi.NoEscape", "internal/bytealg.MakeNoZero"], unfollowed := true, recurses := true, named := ["internal/strconv.uint64pow10", "math/bits.deBruijn32tab", "math/bits.deBruijn64tab"], apart := false, laid := [("math/bits.deBruijn32tab", laid_math_bits_deBruijn32tab), ("math/bits.deBruijn64tab", laid_math_bits_deBruijn64tab), ("internal/strconv.uint64pow10", laid_internal_strconv_uint64pow10)] }
def FactoryOnceSaid : Prop := factoryOnceRow.holds Tryz.pinned (OpenSpec.ofChange factoryOnceSpec)

/-- ITS FALSE NEIGHBOUR: 'it returns false'. Refute it at one input. -/
def factoryOnceWrong : ChangeSpec := { name := "factoryOnce", fn := fun _ => fun
  | [d1, d2] => { results := [.lit (.bool false)], args := [d1, d2] }
  | _ => none }
def FactoryOnceWrongFalsely : Prop := factoryOnceRow.holds Tryz.pinned (OpenSpec.ofChange factoryOnceWrong)

/-- 'hackneylaw10.FactoryPlays': WHATEVER THE INPUT: true; the input reads as it did. -/
def factoryPlaysSpec : ChangeSpec := { name := "factoryPlays", fn := fun _ => fun
  | [d1, d2, d3] => { results := [.lit (.bool true)], args := [d1, d2, d3] }
  | _ => none }
def factoryPlaysRow : OpenClaim := { program := "ytonfaojmphidpaagreatdoor", sum := "41305f3ba18829be2b1c463c89f8c00f3125c37a1c20c4c982ce951adde4782e", func := "hackney/hackneylaw10.FactoryPlays", spec := "factoryPlays", inPlace := ["sync/atomic.StoreUint64", "sync/atomic.CompareAndSwapUint64", "sync/atomic.LoadUint64", "internal/abi.NoEscape", "internal/bytealg.MakeNoZero", "maps.clone"], unfollowed := true, recurses := true, named := ["internal/strconv.uint64pow10", "math/bits.deBruijn32tab", "math/bits.deBruijn64tab"], apart := false, laid := [("math/bits.deBruijn32tab", laid_math_bits_deBruijn32tab), ("math/bits.deBruijn64tab", laid_math_bits_deBruijn64tab), ("internal/strconv.uint64pow10", laid_internal_strconv_uint64pow10)] }
def FactoryPlaysSaid : Prop := factoryPlaysRow.holds Tryz.pinned (OpenSpec.ofChange factoryPlaysSpec)

/-- ITS FALSE NEIGHBOUR: 'it returns false'. Refute it at one input. -/
def factoryPlaysWrong : ChangeSpec := { name := "factoryPlays", fn := fun _ => fun
  | [d1, d2, d3] => { results := [.lit (.bool false)], args := [d1, d2, d3] }
  | _ => none }
def FactoryPlaysWrongFalsely : Prop := factoryPlaysRow.holds Tryz.pinned (OpenSpec.ofChange factoryPlaysWrong)

/-- 'hackneylaw10.FactoryNone': WHATEVER THE INPUT: true; the input reads as it did. -/
def factoryNoneSpec : ChangeSpec := { name := "factoryNone", fn := fun _ => fun
  | [] => { results := [.lit (.bool true)], args := [] }
  | _ => none }
def factoryNoneRow : OpenClaim := { program := "ytonfaojmphidpaagreatdoor", sum := "41305f3ba18829be2b1c463c89f8c00f3125c37a1c20c4c982ce951adde4782e", func := "hackney/hackneylaw10.FactoryNone", spec := "factoryNone", inPlace := ["sync/atomic.StoreUint64", "sync/atomic.CompareAndSwapUint64", "sync/atomic.LoadUint64", "internal/abi.NoEscape", "internal/bytealg.MakeNoZero", "maps.clone"], unfollowed := true, recurses := true, named := ["internal/strconv.uint64pow10", "math/bits.deBruijn32tab", "math/bits.deBruijn64tab"], apart := false, laid := [("math/bits.deBruijn32tab", laid_math_bits_deBruijn32tab), ("math/bits.deBruijn64tab", laid_math_bits_deBruijn64tab), ("internal/strconv.uint64pow10", laid_internal_strconv_uint64pow10)] }
def FactoryNoneSaid : Prop := factoryNoneRow.holds Tryz.pinned (OpenSpec.ofChange factoryNoneSpec)

/-- ITS FALSE NEIGHBOUR: 'it returns false'. Refute it at one input. -/
def factoryNoneWrong : ChangeSpec := { name := "factoryNone", fn := fun _ => fun
  | [] => { results := [.lit (.bool false)], args := [] }
  | _ => none }
def FactoryNoneWrongFalsely : Prop := factoryNoneRow.holds Tryz.pinned (OpenSpec.ofChange factoryNoneWrong)

/-- 'hackneylaw11.SlotsOrder': WHATEVER THE INPUT: true; the input reads as it did. -/
def slotsOrderSpec : ChangeSpec := { name := "slotsOrder", fn := fun _ => fun
  | [d1, d2] => { results := [.lit (.bool true)], args := [d1, d2] }
  | _ => none }
def slotsOrderRow : OpenClaim := { program := "ytonfaojmphidpaagreatdoor", sum := "41305f3ba18829be2b1c463c89f8c00f3125c37a1c20c4c982ce951adde4782e", func := "hackney/hackneylaw11.SlotsOrder", spec := "slotsOrder", inPlace := ["sync/atomic.StoreUint64", "sync/atomic.CompareAndSwapUint64", "sync/atomic.LoadUint64", "internal/abi.NoEscape", "internal/bytealg.MakeNoZero"], unfollowed := true, recurses := true, named := ["internal/strconv.uint64pow10", "math/bits.deBruijn32tab", "math/bits.deBruijn64tab"], apart := false, laid := [("math/bits.deBruijn32tab", laid_math_bits_deBruijn32tab), ("math/bits.deBruijn64tab", laid_math_bits_deBruijn64tab), ("internal/strconv.uint64pow10", laid_internal_strconv_uint64pow10)] }
def SlotsOrderSaid : Prop := slotsOrderRow.holds Tryz.pinned (OpenSpec.ofChange slotsOrderSpec)

/-- ITS FALSE NEIGHBOUR: 'it returns false'. Refute it at one input. -/
def slotsOrderWrong : ChangeSpec := { name := "slotsOrder", fn := fun _ => fun
  | [d1, d2] => { results := [.lit (.bool false)], args := [d1, d2] }
  | _ => none }
def SlotsOrderWrongFalsely : Prop := slotsOrderRow.holds Tryz.pinned (OpenSpec.ofChange slotsOrderWrong)

/-- 'hackneylaw11.SlotsPlay': WHATEVER THE INPUT: true; the input reads as it did. -/
def slotsPlaySpec : ChangeSpec := { name := "slotsPlay", fn := fun _ => fun
  | [d] => { results := [.lit (.bool true)], args := [d] }
  | _ => none }
def slotsPlayRow : OpenClaim := { program := "ytonfaojmphidpaagreatdoor", sum := "41305f3ba18829be2b1c463c89f8c00f3125c37a1c20c4c982ce951adde4782e", func := "hackney/hackneylaw11.SlotsPlay", spec := "slotsPlay", inPlace := ["sync/atomic.StoreUint64", "sync/atomic.CompareAndSwapUint64", "sync/atomic.LoadUint64", "internal/abi.NoEscape", "internal/bytealg.MakeNoZero"], unfollowed := true, recurses := true, named := ["internal/strconv.uint64pow10", "math/bits.deBruijn32tab", "math/bits.deBruijn64tab"], apart := false, laid := [("math/bits.deBruijn32tab", laid_math_bits_deBruijn32tab), ("math/bits.deBruijn64tab", laid_math_bits_deBruijn64tab), ("internal/strconv.uint64pow10", laid_internal_strconv_uint64pow10)] }
def SlotsPlaySaid : Prop := slotsPlayRow.holds Tryz.pinned (OpenSpec.ofChange slotsPlaySpec)

/-- ITS FALSE NEIGHBOUR: 'it returns false'. Refute it at one input. -/
def slotsPlayWrong : ChangeSpec := { name := "slotsPlay", fn := fun _ => fun
  | [d] => { results := [.lit (.bool false)], args := [d] }
  | _ => none }
def SlotsPlayWrongFalsely : Prop := slotsPlayRow.holds Tryz.pinned (OpenSpec.ofChange slotsPlayWrong)

/-- 'hackneylaw11.SlotsNone': WHATEVER THE INPUT: true; the input reads as it did. -/
def slotsNoneSpec : ChangeSpec := { name := "slotsNone", fn := fun _ => fun
  | [] => { results := [.lit (.bool true)], args := [] }
  | _ => none }
def slotsNoneRow : OpenClaim := { program := "ytonfaojmphidpaagreatdoor", sum := "41305f3ba18829be2b1c463c89f8c00f3125c37a1c20c4c982ce951adde4782e", func := "hackney/hackneylaw11.SlotsNone", spec := "slotsNone", inPlace := ["sync/atomic.StoreUint64", "sync/atomic.CompareAndSwapUint64", "sync/atomic.LoadUint64", "internal/abi.NoEscape", "internal/bytealg.MakeNoZero"], unfollowed := true, recurses := true, named := ["internal/strconv.uint64pow10", "math/bits.deBruijn32tab", "math/bits.deBruijn64tab"], apart := false, laid := [("math/bits.deBruijn32tab", laid_math_bits_deBruijn32tab), ("math/bits.deBruijn64tab", laid_math_bits_deBruijn64tab), ("internal/strconv.uint64pow10", laid_internal_strconv_uint64pow10)] }
def SlotsNoneSaid : Prop := slotsNoneRow.holds Tryz.pinned (OpenSpec.ofChange slotsNoneSpec)

/-- ITS FALSE NEIGHBOUR: 'it returns false'. Refute it at one input. -/
def slotsNoneWrong : ChangeSpec := { name := "slotsNone", fn := fun _ => fun
  | [] => { results := [.lit (.bool false)], args := [] }
  | _ => none }
def SlotsNoneWrongFalsely : Prop := slotsNoneRow.holds Tryz.pinned (OpenSpec.ofChange slotsNoneWrong)

/-- 'hackneylaw12.LocalPlays': WHATEVER THE INPUT: true; the input reads as it did. -/
def localPlaysSpec : ChangeSpec := { name := "localPlays", fn := fun _ => fun
  | [d] => { results := [.lit (.bool true)], args := [d] }
  | _ => none }
def localPlaysRow : OpenClaim := { program := "ytonfaojmphidpaagreatdoor", sum := "41305f3ba18829be2b1c463c89f8c00f3125c37a1c20c4c982ce951adde4782e", func := "hackney/hackneylaw12.LocalPlays", spec := "localPlays", inPlace := ["sync/atomic.StoreUint64", "sync/atomic.CompareAndSwapUint64", "sync/atomic.LoadUint64", "internal/abi.NoEscape", "internal/bytealg.MakeNoZero"], unfollowed := true, recurses := true, named := ["internal/strconv.uint64pow10", "math/bits.deBruijn32tab", "math/bits.deBruijn64tab"], apart := false, laid := [("math/bits.deBruijn32tab", laid_math_bits_deBruijn32tab), ("math/bits.deBruijn64tab", laid_math_bits_deBruijn64tab), ("internal/strconv.uint64pow10", laid_internal_strconv_uint64pow10)] }
def LocalPlaysSaid : Prop := localPlaysRow.holds Tryz.pinned (OpenSpec.ofChange localPlaysSpec)

/-- ITS FALSE NEIGHBOUR: 'it returns false'. Refute it at one input. -/
def localPlaysWrong : ChangeSpec := { name := "localPlays", fn := fun _ => fun
  | [d] => { results := [.lit (.bool false)], args := [d] }
  | _ => none }
def LocalPlaysWrongFalsely : Prop := localPlaysRow.holds Tryz.pinned (OpenSpec.ofChange localPlaysWrong)

/-- 'hackneylaw12.LocalLast': WHATEVER THE INPUT: true; the input reads as it did. -/
def localLastSpec : ChangeSpec := { name := "localLast", fn := fun _ => fun
  | [d] => { results := [.lit (.bool true)], args := [d] }
  | _ => none }
def localLastRow : OpenClaim := { program := "ytonfaojmphidpaagreatdoor", sum := "41305f3ba18829be2b1c463c89f8c00f3125c37a1c20c4c982ce951adde4782e", func := "hackney/hackneylaw12.LocalLast", spec := "localLast", inPlace := ["sync/atomic.StoreUint64", "sync/atomic.CompareAndSwapUint64", "sync/atomic.LoadUint64", "internal/abi.NoEscape", "internal/bytealg.MakeNoZero"], unfollowed := true, recurses := true, named := ["internal/strconv.uint64pow10", "math/bits.deBruijn32tab", "math/bits.deBruijn64tab"], apart := false, laid := [("math/bits.deBruijn32tab", laid_math_bits_deBruijn32tab), ("math/bits.deBruijn64tab", laid_math_bits_deBruijn64tab), ("internal/strconv.uint64pow10", laid_internal_strconv_uint64pow10)] }
def LocalLastSaid : Prop := localLastRow.holds Tryz.pinned (OpenSpec.ofChange localLastSpec)

/-- ITS FALSE NEIGHBOUR: 'it returns false'. Refute it at one input. -/
def localLastWrong : ChangeSpec := { name := "localLast", fn := fun _ => fun
  | [d] => { results := [.lit (.bool false)], args := [d] }
  | _ => none }
def LocalLastWrongFalsely : Prop := localLastRow.holds Tryz.pinned (OpenSpec.ofChange localLastWrong)

/-- 'hackneylaw11.SlotsLeave': WHATEVER THE INPUT: true; the input reads as it did. -/
def slotsLeaveSpec : ChangeSpec := { name := "slotsLeave", fn := fun _ => fun
  | [d1, d2, d3] => { results := [.lit (.bool true)], args := [d1, d2, d3] }
  | _ => none }
def slotsLeaveRow : OpenClaim := { program := "ytonfaojmphidpaagreatdoor", sum := "41305f3ba18829be2b1c463c89f8c00f3125c37a1c20c4c982ce951adde4782e", func := "hackney/hackneylaw11.SlotsLeave", spec := "slotsLeave", inPlace := ["sync/atomic.StoreUint64", "sync/atomic.CompareAndSwapUint64", "sync/atomic.LoadUint64", "internal/abi.NoEscape", "internal/bytealg.MakeNoZero"], unfollowed := true, recurses := true, named := ["internal/strconv.uint64pow10", "math/bits.deBruijn32tab", "math/bits.deBruijn64tab"], apart := false, laid := [("math/bits.deBruijn32tab", laid_math_bits_deBruijn32tab), ("math/bits.deBruijn64tab", laid_math_bits_deBruijn64tab), ("internal/strconv.uint64pow10", laid_internal_strconv_uint64pow10)] }
def SlotsLeaveSaid : Prop := slotsLeaveRow.holds Tryz.pinned (OpenSpec.ofChange slotsLeaveSpec)

/-- ITS FALSE NEIGHBOUR: 'it returns false'. Refute it at one input. -/
def slotsLeaveWrong : ChangeSpec := { name := "slotsLeave", fn := fun _ => fun
  | [d1, d2, d3] => { results := [.lit (.bool false)], args := [d1, d2, d3] }
  | _ => none }
def SlotsLeaveWrongFalsely : Prop := slotsLeaveRow.holds Tryz.pinned (OpenSpec.ofChange slotsLeaveWrong)

/-- 'hackneylaw09.HistTells': WHATEVER THE INPUT: true; the input reads as it did. -/
def histTellsSpec : ChangeSpec := { name := "histTells", fn := fun _ => fun
  | [d1, d2] => { results := [.lit (.bool true)], args := [d1, d2] }
  | _ => none }
def histTellsRow : OpenClaim := { program := "ytonfaojmphidpaagreatdoor", sum := "41305f3ba18829be2b1c463c89f8c00f3125c37a1c20c4c982ce951adde4782e", func := "hackney/hackneylaw09.HistTells", spec := "histTells", inPlace := ["sync/atomic.StoreUint64", "sync/atomic.CompareAndSwapUint64", "sync/atomic.LoadUint64", "internal/abi.NoEscape", "internal/bytealg.MakeNoZero"], unfollowed := true, recurses := true, named := ["internal/strconv.uint64pow10", "math/bits.deBruijn32tab", "math/bits.deBruijn64tab"], apart := false, laid := [("math/bits.deBruijn32tab", laid_math_bits_deBruijn32tab), ("math/bits.deBruijn64tab", laid_math_bits_deBruijn64tab), ("internal/strconv.uint64pow10", laid_internal_strconv_uint64pow10)] }
def HistTellsSaid : Prop := histTellsRow.holds Tryz.pinned (OpenSpec.ofChange histTellsSpec)

/-- ITS FALSE NEIGHBOUR: 'it returns false'. Refute it at one input. -/
def histTellsWrong : ChangeSpec := { name := "histTells", fn := fun _ => fun
  | [d1, d2] => { results := [.lit (.bool false)], args := [d1, d2] }
  | _ => none }
def HistTellsWrongFalsely : Prop := histTellsRow.holds Tryz.pinned (OpenSpec.ofChange histTellsWrong)

/-- 'hackneylaw09.HistStays': WHATEVER THE INPUT: true; the input reads as it did. -/
def histStaysSpec : ChangeSpec := { name := "histStays", fn := fun _ => fun
  | [d] => { results := [.lit (.bool true)], args := [d] }
  | _ => none }
def histStaysRow : OpenClaim := { program := "ytonfaojmphidpaagreatdoor", sum := "41305f3ba18829be2b1c463c89f8c00f3125c37a1c20c4c982ce951adde4782e", func := "hackney/hackneylaw09.HistStays", spec := "histStays", inPlace := ["sync/atomic.StoreUint64", "sync/atomic.CompareAndSwapUint64", "sync/atomic.LoadUint64", "internal/abi.NoEscape", "internal/bytealg.MakeNoZero"], unfollowed := true, recurses := true, named := ["internal/strconv.uint64pow10", "math/bits.deBruijn32tab", "math/bits.deBruijn64tab"], apart := false, laid := [("math/bits.deBruijn32tab", laid_math_bits_deBruijn32tab), ("math/bits.deBruijn64tab", laid_math_bits_deBruijn64tab), ("internal/strconv.uint64pow10", laid_internal_strconv_uint64pow10)] }
def HistStaysSaid : Prop := histStaysRow.holds Tryz.pinned (OpenSpec.ofChange histStaysSpec)

/-- ITS FALSE NEIGHBOUR: 'it returns false'. Refute it at one input. -/
def histStaysWrong : ChangeSpec := { name := "histStays", fn := fun _ => fun
  | [d] => { results := [.lit (.bool false)], args := [d] }
  | _ => none }
def HistStaysWrongFalsely : Prop := histStaysRow.holds Tryz.pinned (OpenSpec.ofChange histStaysWrong)

/- THE SECOND FORM. 'bulk': how many values and letters a reading holds, each counted each time it is reached (what is shared counts as often as it is met; a slice's spare places count too). A statement '..UptoSaid' is the law's where the arguments, and the package variables that the reading takes, are together of bulk at most 1048576: NARROWER than '..Said'. Prove '..Said' where nothing that the law and all that it calls make is longer than what came in: it says more and counts as full. Else prove '..UptoSaid'. A law counts once. -/
mutual
def uptoBulk {H : Type} : DataW H → Nat
  | .lit (.string bytes) => bytes.length + 1
  | .lit _ => 1
  | .nil => 1
  | .ptr d => uptoBulk d + 1
  | .slice elems spare => uptoBulkAll elems + uptoBulkAll spare + 1
  | .agg parts => uptoBulkAll parts + 1
  | .iface _ d => uptoBulk d + 1
  | .map entries => uptoBulkEntries entries + 1
  | .held _ => 1
def uptoBulkAll {H : Type} : List (DataW H) → Nat
  | [] => 0
  | d :: r => uptoBulk d + uptoBulkAll r
def uptoBulkEntries {H : Type} : List (Lit × DataW H) → Nat
  | [] => 0
  | x :: r => uptoBulkEntry x + uptoBulkEntries r
def uptoBulkEntry {H : Type} : Lit × DataW H → Nat
  | (.string bytes, d) => bytes.length + uptoBulk d + 1
  | (_, d) => uptoBulk d + 1
 end
def uptoSmall : (H : Type) → List (DataW H) → Bool := fun _ ds => decide (uptoBulkAll ds ≤ 1048576)
def OpenSpec.upto (s : _root_.Go.ChangeSpec) : _root_.Go.OpenSpec := { _root_.Go.OpenSpec.ofChange s with cond := some uptoSmall }

/-- 'hackneylaw10.FactoryOnce', WHERE WHAT IT READS IS OF BULK AT MOST 1048576: true; the input reads as it did. -/
def factoryOnceUptoRow : OpenClaim := { program := "ytonfaojmphidpaagreatdoor", sum := "41305f3ba18829be2b1c463c89f8c00f3125c37a1c20c4c982ce951adde4782e", func := "hackney/hackneylaw10.FactoryOnce", spec := "factoryOnce", inPlace := ["sync/atomic.StoreUint64", "sync/atomic.CompareAndSwapUint64", "sync/atomic.LoadUint64", "internal/abi.NoEscape", "internal/bytealg.MakeNoZero"], unfollowed := true, recurses := true, named := ["internal/strconv.uint64pow10", "math/bits.deBruijn32tab", "math/bits.deBruijn64tab"], apart := false, laid := [("math/bits.deBruijn32tab", laid_math_bits_deBruijn32tab), ("math/bits.deBruijn64tab", laid_math_bits_deBruijn64tab), ("internal/strconv.uint64pow10", laid_internal_strconv_uint64pow10)], narrowed := true }
def FactoryOnceUptoSaid : Prop := factoryOnceUptoRow.holds Tryz.pinned (OpenSpec.upto factoryOnceSpec)

/-- 'hackneylaw10.FactoryPlays', WHERE WHAT IT READS IS OF BULK AT MOST 1048576: true; the input reads as it did. -/
def factoryPlaysUptoRow : OpenClaim := { program := "ytonfaojmphidpaagreatdoor", sum := "41305f3ba18829be2b1c463c89f8c00f3125c37a1c20c4c982ce951adde4782e", func := "hackney/hackneylaw10.FactoryPlays", spec := "factoryPlays", inPlace := ["sync/atomic.StoreUint64", "sync/atomic.CompareAndSwapUint64", "sync/atomic.LoadUint64", "internal/abi.NoEscape", "internal/bytealg.MakeNoZero", "maps.clone"], unfollowed := true, recurses := true, named := ["internal/strconv.uint64pow10", "math/bits.deBruijn32tab", "math/bits.deBruijn64tab"], apart := false, laid := [("math/bits.deBruijn32tab", laid_math_bits_deBruijn32tab), ("math/bits.deBruijn64tab", laid_math_bits_deBruijn64tab), ("internal/strconv.uint64pow10", laid_internal_strconv_uint64pow10)], narrowed := true }
def FactoryPlaysUptoSaid : Prop := factoryPlaysUptoRow.holds Tryz.pinned (OpenSpec.upto factoryPlaysSpec)

/-- 'hackneylaw10.FactoryNone', WHERE WHAT IT READS IS OF BULK AT MOST 1048576: true; the input reads as it did. -/
def factoryNoneUptoRow : OpenClaim := { program := "ytonfaojmphidpaagreatdoor", sum := "41305f3ba18829be2b1c463c89f8c00f3125c37a1c20c4c982ce951adde4782e", func := "hackney/hackneylaw10.FactoryNone", spec := "factoryNone", inPlace := ["sync/atomic.StoreUint64", "sync/atomic.CompareAndSwapUint64", "sync/atomic.LoadUint64", "internal/abi.NoEscape", "internal/bytealg.MakeNoZero", "maps.clone"], unfollowed := true, recurses := true, named := ["internal/strconv.uint64pow10", "math/bits.deBruijn32tab", "math/bits.deBruijn64tab"], apart := false, laid := [("math/bits.deBruijn32tab", laid_math_bits_deBruijn32tab), ("math/bits.deBruijn64tab", laid_math_bits_deBruijn64tab), ("internal/strconv.uint64pow10", laid_internal_strconv_uint64pow10)], narrowed := true }
def FactoryNoneUptoSaid : Prop := factoryNoneUptoRow.holds Tryz.pinned (OpenSpec.upto factoryNoneSpec)

/-- 'hackneylaw11.SlotsOrder', WHERE WHAT IT READS IS OF BULK AT MOST 1048576: true; the input reads as it did. -/
def slotsOrderUptoRow : OpenClaim := { program := "ytonfaojmphidpaagreatdoor", sum := "41305f3ba18829be2b1c463c89f8c00f3125c37a1c20c4c982ce951adde4782e", func := "hackney/hackneylaw11.SlotsOrder", spec := "slotsOrder", inPlace := ["sync/atomic.StoreUint64", "sync/atomic.CompareAndSwapUint64", "sync/atomic.LoadUint64", "internal/abi.NoEscape", "internal/bytealg.MakeNoZero"], unfollowed := true, recurses := true, named := ["internal/strconv.uint64pow10", "math/bits.deBruijn32tab", "math/bits.deBruijn64tab"], apart := false, laid := [("math/bits.deBruijn32tab", laid_math_bits_deBruijn32tab), ("math/bits.deBruijn64tab", laid_math_bits_deBruijn64tab), ("internal/strconv.uint64pow10", laid_internal_strconv_uint64pow10)], narrowed := true }
def SlotsOrderUptoSaid : Prop := slotsOrderUptoRow.holds Tryz.pinned (OpenSpec.upto slotsOrderSpec)

/-- 'hackneylaw11.SlotsPlay', WHERE WHAT IT READS IS OF BULK AT MOST 1048576: true; the input reads as it did. -/
def slotsPlayUptoRow : OpenClaim := { program := "ytonfaojmphidpaagreatdoor", sum := "41305f3ba18829be2b1c463c89f8c00f3125c37a1c20c4c982ce951adde4782e", func := "hackney/hackneylaw11.SlotsPlay", spec := "slotsPlay", inPlace := ["sync/atomic.StoreUint64", "sync/atomic.CompareAndSwapUint64", "sync/atomic.LoadUint64", "internal/abi.NoEscape", "internal/bytealg.MakeNoZero"], unfollowed := true, recurses := true, named := ["internal/strconv.uint64pow10", "math/bits.deBruijn32tab", "math/bits.deBruijn64tab"], apart := false, laid := [("math/bits.deBruijn32tab", laid_math_bits_deBruijn32tab), ("math/bits.deBruijn64tab", laid_math_bits_deBruijn64tab), ("internal/strconv.uint64pow10", laid_internal_strconv_uint64pow10)], narrowed := true }
def SlotsPlayUptoSaid : Prop := slotsPlayUptoRow.holds Tryz.pinned (OpenSpec.upto slotsPlaySpec)

/-- 'hackneylaw11.SlotsNone', WHERE WHAT IT READS IS OF BULK AT MOST 1048576: true; the input reads as it did. -/
def slotsNoneUptoRow : OpenClaim := { program := "ytonfaojmphidpaagreatdoor", sum := "41305f3ba18829be2b1c463c89f8c00f3125c37a1c20c4c982ce951adde4782e", func := "hackney/hackneylaw11.SlotsNone", spec := "slotsNone", inPlace := ["sync/atomic.StoreUint64", "sync/atomic.CompareAndSwapUint64", "sync/atomic.LoadUint64", "internal/abi.NoEscape", "internal/bytealg.MakeNoZero"], unfollowed := true, recurses := true, named := ["internal/strconv.uint64pow10", "math/bits.deBruijn32tab", "math/bits.deBruijn64tab"], apart := false, laid := [("math/bits.deBruijn32tab", laid_math_bits_deBruijn32tab), ("math/bits.deBruijn64tab", laid_math_bits_deBruijn64tab), ("internal/strconv.uint64pow10", laid_internal_strconv_uint64pow10)], narrowed := true }
def SlotsNoneUptoSaid : Prop := slotsNoneUptoRow.holds Tryz.pinned (OpenSpec.upto slotsNoneSpec)

/-- 'hackneylaw12.LocalPlays', WHERE WHAT IT READS IS OF BULK AT MOST 1048576: true; the input reads as it did. -/
def localPlaysUptoRow : OpenClaim := { program := "ytonfaojmphidpaagreatdoor", sum := "41305f3ba18829be2b1c463c89f8c00f3125c37a1c20c4c982ce951adde4782e", func := "hackney/hackneylaw12.LocalPlays", spec := "localPlays", inPlace := ["sync/atomic.StoreUint64", "sync/atomic.CompareAndSwapUint64", "sync/atomic.LoadUint64", "internal/abi.NoEscape", "internal/bytealg.MakeNoZero"], unfollowed := true, recurses := true, named := ["internal/strconv.uint64pow10", "math/bits.deBruijn32tab", "math/bits.deBruijn64tab"], apart := false, laid := [("math/bits.deBruijn32tab", laid_math_bits_deBruijn32tab), ("math/bits.deBruijn64tab", laid_math_bits_deBruijn64tab), ("internal/strconv.uint64pow10", laid_internal_strconv_uint64pow10)], narrowed := true }
def LocalPlaysUptoSaid : Prop := localPlaysUptoRow.holds Tryz.pinned (OpenSpec.upto localPlaysSpec)

/-- 'hackneylaw12.LocalLast', WHERE WHAT IT READS IS OF BULK AT MOST 1048576: true; the input reads as it did. -/
def localLastUptoRow : OpenClaim := { program := "ytonfaojmphidpaagreatdoor", sum := "41305f3ba18829be2b1c463c89f8c00f3125c37a1c20c4c982ce951adde4782e", func := "hackney/hackneylaw12.LocalLast", spec := "localLast", inPlace := ["sync/atomic.StoreUint64", "sync/atomic.CompareAndSwapUint64", "sync/atomic.LoadUint64", "internal/abi.NoEscape", "internal/bytealg.MakeNoZero"], unfollowed := true, recurses := true, named := ["internal/strconv.uint64pow10", "math/bits.deBruijn32tab", "math/bits.deBruijn64tab"], apart := false, laid := [("math/bits.deBruijn32tab", laid_math_bits_deBruijn32tab), ("math/bits.deBruijn64tab", laid_math_bits_deBruijn64tab), ("internal/strconv.uint64pow10", laid_internal_strconv_uint64pow10)], narrowed := true }
def LocalLastUptoSaid : Prop := localLastUptoRow.holds Tryz.pinned (OpenSpec.upto localLastSpec)

/-- 'hackneylaw11.SlotsLeave', WHERE WHAT IT READS IS OF BULK AT MOST 1048576: true; the input reads as it did. -/
def slotsLeaveUptoRow : OpenClaim := { program := "ytonfaojmphidpaagreatdoor", sum := "41305f3ba18829be2b1c463c89f8c00f3125c37a1c20c4c982ce951adde4782e", func := "hackney/hackneylaw11.SlotsLeave", spec := "slotsLeave", inPlace := ["sync/atomic.StoreUint64", "sync/atomic.CompareAndSwapUint64", "sync/atomic.LoadUint64", "internal/abi.NoEscape", "internal/bytealg.MakeNoZero"], unfollowed := true, recurses := true, named := ["internal/strconv.uint64pow10", "math/bits.deBruijn32tab", "math/bits.deBruijn64tab"], apart := false, laid := [("math/bits.deBruijn32tab", laid_math_bits_deBruijn32tab), ("math/bits.deBruijn64tab", laid_math_bits_deBruijn64tab), ("internal/strconv.uint64pow10", laid_internal_strconv_uint64pow10)], narrowed := true }
def SlotsLeaveUptoSaid : Prop := slotsLeaveUptoRow.holds Tryz.pinned (OpenSpec.upto slotsLeaveSpec)

/-- 'hackneylaw09.HistTells', WHERE WHAT IT READS IS OF BULK AT MOST 1048576: true; the input reads as it did. -/
def histTellsUptoRow : OpenClaim := { program := "ytonfaojmphidpaagreatdoor", sum := "41305f3ba18829be2b1c463c89f8c00f3125c37a1c20c4c982ce951adde4782e", func := "hackney/hackneylaw09.HistTells", spec := "histTells", inPlace := ["sync/atomic.StoreUint64", "sync/atomic.CompareAndSwapUint64", "sync/atomic.LoadUint64", "internal/abi.NoEscape", "internal/bytealg.MakeNoZero"], unfollowed := true, recurses := true, named := ["internal/strconv.uint64pow10", "math/bits.deBruijn32tab", "math/bits.deBruijn64tab"], apart := false, laid := [("math/bits.deBruijn32tab", laid_math_bits_deBruijn32tab), ("math/bits.deBruijn64tab", laid_math_bits_deBruijn64tab), ("internal/strconv.uint64pow10", laid_internal_strconv_uint64pow10)], narrowed := true }
def HistTellsUptoSaid : Prop := histTellsUptoRow.holds Tryz.pinned (OpenSpec.upto histTellsSpec)

/-- 'hackneylaw09.HistStays', WHERE WHAT IT READS IS OF BULK AT MOST 1048576: true; the input reads as it did. -/
def histStaysUptoRow : OpenClaim := { program := "ytonfaojmphidpaagreatdoor", sum := "41305f3ba18829be2b1c463c89f8c00f3125c37a1c20c4c982ce951adde4782e", func := "hackney/hackneylaw09.HistStays", spec := "histStays", inPlace := ["sync/atomic.StoreUint64", "sync/atomic.CompareAndSwapUint64", "sync/atomic.LoadUint64", "internal/abi.NoEscape", "internal/bytealg.MakeNoZero"], unfollowed := true, recurses := true, named := ["internal/strconv.uint64pow10", "math/bits.deBruijn32tab", "math/bits.deBruijn64tab"], apart := false, laid := [("math/bits.deBruijn32tab", laid_math_bits_deBruijn32tab), ("math/bits.deBruijn64tab", laid_math_bits_deBruijn64tab), ("internal/strconv.uint64pow10", laid_internal_strconv_uint64pow10)], narrowed := true }
def HistStaysUptoSaid : Prop := histStaysUptoRow.holds Tryz.pinned (OpenSpec.upto histStaysSpec)

end Rows
end Go.Proofs.YtonfaojmphidpaaGreatDoor
