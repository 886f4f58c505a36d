/-
  NARROWER THAN 'FOR EVERY INPUT', by the rows' own cells (each row's printed sentence says how): MinimalCompares: laid · MemoryNumbers: laid · MemoryShown: laid · MemoryMeaning: laid · MemoryLocal: laid · MemoryReads: laid · MemoryFollow: laid · MemoryType: laid.
  DERIVED. THE GIVEN ROWS OF THIS SEAT. 8 by the template 'for every input the law returns true; each argument reads behind the call as it read before'; 0 by the template 'total and deterministic' (their statements: YtocbhlohcikapaaGreatDoorTotals.lean).
  GIVEN WITH THE SEED: the statements are not yours to turn. If you find one false, say at which input.
  Laid BY PROGRAM, IN A SANDBOX (cutbox-rows.mjs): the forced cells as the released guide's own fill.sh prints them over the translation ce3556f8592ed228… (all of the seat's roots in one cut). By AI agents, Wed Nov 11 2026. No macro, syntax, notation, axiom, sorry.
-/
import Derived.Test.YtocbhlohcikapaaGreatDoorChecked
import GoSem.Claim
import GoSem.ClaimJoined
import GoSem.ClaimMapViews
import Derived.JoinedTies
import Derived.KernelRfl
namespace Go.Proofs.YtocbhlohcikapaaGreatDoor
/- THE CELL 'sum', in the pinned program and in every row, IS THE sha256 OF THE DUMP (.gsa) THAT YtocbhlohcikapaaGreatDoorProg.lean LOADS. Nothing in Lean hashes anything: it is a label: what it is worth is what the hold of that sum in a sandbox is worth. -/
noncomputable def Tryz.pinned : Pinned := { name := "ytocbhlohcikapaagreatdoor", sum := "ce3556f8592ed2280c16b7c21bddedd1201a8af29ceb41eeedd88bcb09a32739", checked := Tryz.checked }
namespace Rows
def none {H : Type} : Left H := { results := [], args := [] }

/- WHAT THE LISTED PACKAGE-LEVEL VARIABLES READ AS WHEN THE CALL BEGINS. Each datum BY PROGRAM (the guide's laid-datum.mjs) off the statement by which the dump's own 'gosem.cut.vars' lays the variable. In a bare row this is a premise. The card (YtocbhlohcikapaaGreatDoorCards.lean) ties it to the program's text. -/
def laid_math_bits_deBruijn32tab {H : Type} : DataW H := .agg [.lit (.int .u8 0), .lit (.int .u8 1), .lit (.int .u8 28), .lit (.int .u8 2), .lit (.int .u8 29), .lit (.int .u8 14), .lit (.int .u8 24), .lit (.int .u8 3), .lit (.int .u8 30), .lit (.int .u8 22), .lit (.int .u8 20), .lit (.int .u8 15), .lit (.int .u8 25), .lit (.int .u8 17), .lit (.int .u8 4), .lit (.int .u8 8), .lit (.int .u8 31), .lit (.int .u8 27), .lit (.int .u8 13), .lit (.int .u8 23), .lit (.int .u8 21), .lit (.int .u8 19), .lit (.int .u8 16), .lit (.int .u8 7), .lit (.int .u8 26), .lit (.int .u8 12), .lit (.int .u8 18), .lit (.int .u8 6), .lit (.int .u8 11), .lit (.int .u8 5), .lit (.int .u8 10), .lit (.int .u8 9)]
def laid_math_bits_deBruijn64tab {H : Type} : DataW H := .agg [.lit (.int .u8 0), .lit (.int .u8 1), .lit (.int .u8 56), .lit (.int .u8 2), .lit (.int .u8 57), .lit (.int .u8 49), .lit (.int .u8 28), .lit (.int .u8 3), .lit (.int .u8 61), .lit (.int .u8 58), .lit (.int .u8 42), .lit (.int .u8 50), .lit (.int .u8 38), .lit (.int .u8 29), .lit (.int .u8 17), .lit (.int .u8 4), .lit (.int .u8 62), .lit (.int .u8 47), .lit (.int .u8 59), .lit (.int .u8 36), .lit (.int .u8 45), .lit (.int .u8 43), .lit (.int .u8 51), .lit (.int .u8 22), .lit (.int .u8 53), .lit (.int .u8 39), .lit (.int .u8 33), .lit (.int .u8 30), .lit (.int .u8 24), .lit (.int .u8 18), .lit (.int .u8 12), .lit (.int .u8 5), .lit (.int .u8 63), .lit (.int .u8 55), .lit (.int .u8 48), .lit (.int .u8 27), .lit (.int .u8 60), .lit (.int .u8 41), .lit (.int .u8 37), .lit (.int .u8 16), .lit (.int .u8 46), .lit (.int .u8 35), .lit (.int .u8 44), .lit (.int .u8 21), .lit (.int .u8 52), .lit (.int .u8 32), .lit (.int .u8 23), .lit (.int .u8 11), .lit (.int .u8 54), .lit (.int .u8 26), .lit (.int .u8 40), .lit (.int .u8 15), .lit (.int .u8 34), .lit (.int .u8 20), .lit (.int .u8 31), .lit (.int .u8 10), .lit (.int .u8 25), .lit (.int .u8 14), .lit (.int .u8 19), .lit (.int .u8 9), .lit (.int .u8 13), .lit (.int .u8 8), .lit (.int .u8 7), .lit (.int .u8 6)]
def laid_internal_strconv_uint64pow10 {H : Type} : DataW H := .agg [.lit (.int .u64 1), .lit (.int .u64 10), .lit (.int .u64 100), .lit (.int .u64 1000), .lit (.int .u64 10000), .lit (.int .u64 100000), .lit (.int .u64 1000000), .lit (.int .u64 10000000), .lit (.int .u64 100000000), .lit (.int .u64 1000000000), .lit (.int .u64 10000000000), .lit (.int .u64 100000000000), .lit (.int .u64 1000000000000), .lit (.int .u64 10000000000000), .lit (.int .u64 100000000000000), .lit (.int .u64 1000000000000000), .lit (.int .u64 10000000000000000), .lit (.int .u64 100000000000000000), .lit (.int .u64 1000000000000000000), .lit (.int .u64 10000000000000000000)]

/-- 'groovelaw13.MinimalCompares': WHATEVER THE INPUT: true; the input reads as it did. -/
def minimalComparesSpec : ChangeSpec := { name := "minimalCompares", fn := fun _ => fun
  | [d1, d2] => { results := [.lit (.bool true)], args := [d1, d2] }
  | _ => none }
def minimalComparesRow : OpenClaim := { program := "ytocbhlohcikapaagreatdoor", sum := "ce3556f8592ed2280c16b7c21bddedd1201a8af29ceb41eeedd88bcb09a32739", func := "groove/groovelaw13.MinimalCompares", spec := "minimalCompares", inPlace := ["internal/abi.NoEscape"], unfollowed := true, recurses := true, named := ["internal/strconv.uint64pow10", "math/bits.deBruijn32tab", "math/bits.deBruijn64tab"], plainKeys := false, apart := false, laid := [("math/bits.deBruijn32tab", laid_math_bits_deBruijn32tab), ("math/bits.deBruijn64tab", laid_math_bits_deBruijn64tab), ("internal/strconv.uint64pow10", laid_internal_strconv_uint64pow10)] }
def MinimalComparesSaid : Prop := minimalComparesRow.holds Tryz.pinned (OpenSpec.ofChange minimalComparesSpec)

/-- ITS FALSE NEIGHBOUR: 'it returns false'. Refute it at one input. -/
def minimalComparesWrong : ChangeSpec := { name := "minimalCompares", fn := fun _ => fun
  | [d1, d2] => { results := [.lit (.bool false)], args := [d1, d2] }
  | _ => none }
def MinimalComparesWrongFalsely : Prop := minimalComparesRow.holds Tryz.pinned (OpenSpec.ofChange minimalComparesWrong)

/-- 'groovelaw15.MemoryNumbers': WHATEVER THE INPUT: true; the input reads as it did. -/
def memoryNumbersSpec : ChangeSpec := { name := "memoryNumbers", fn := fun _ => fun
  | [d] => { results := [.lit (.bool true)], args := [d] }
  | _ => none }
def memoryNumbersRow : OpenClaim := { program := "ytocbhlohcikapaagreatdoor", sum := "ce3556f8592ed2280c16b7c21bddedd1201a8af29ceb41eeedd88bcb09a32739", func := "groove/groovelaw15.MemoryNumbers", spec := "memoryNumbers", inPlace := ["internal/abi.NoEscape"], unfollowed := true, recurses := true, named := ["internal/strconv.uint64pow10", "math/bits.deBruijn32tab", "math/bits.deBruijn64tab"], plainKeys := false, apart := false, laid := [("math/bits.deBruijn32tab", laid_math_bits_deBruijn32tab), ("math/bits.deBruijn64tab", laid_math_bits_deBruijn64tab), ("internal/strconv.uint64pow10", laid_internal_strconv_uint64pow10)] }
def MemoryNumbersSaid : Prop := memoryNumbersRow.holds Tryz.pinned (OpenSpec.ofChange memoryNumbersSpec)

/-- ITS FALSE NEIGHBOUR: 'it returns false'. Refute it at one input. -/
def memoryNumbersWrong : ChangeSpec := { name := "memoryNumbers", fn := fun _ => fun
  | [d] => { results := [.lit (.bool false)], args := [d] }
  | _ => none }
def MemoryNumbersWrongFalsely : Prop := memoryNumbersRow.holds Tryz.pinned (OpenSpec.ofChange memoryNumbersWrong)

/-- 'groovelaw15.MemoryShown': WHATEVER THE INPUT: true; the input reads as it did. -/
def memoryShownSpec : ChangeSpec := { name := "memoryShown", fn := fun _ => fun
  | [d] => { results := [.lit (.bool true)], args := [d] }
  | _ => none }
def memoryShownRow : OpenClaim := { program := "ytocbhlohcikapaagreatdoor", sum := "ce3556f8592ed2280c16b7c21bddedd1201a8af29ceb41eeedd88bcb09a32739", func := "groove/groovelaw15.MemoryShown", spec := "memoryShown", inPlace := ["internal/abi.NoEscape"], unfollowed := true, recurses := true, named := ["internal/strconv.uint64pow10", "math/bits.deBruijn32tab", "math/bits.deBruijn64tab"], plainKeys := false, apart := false, laid := [("math/bits.deBruijn32tab", laid_math_bits_deBruijn32tab), ("math/bits.deBruijn64tab", laid_math_bits_deBruijn64tab), ("internal/strconv.uint64pow10", laid_internal_strconv_uint64pow10)] }
def MemoryShownSaid : Prop := memoryShownRow.holds Tryz.pinned (OpenSpec.ofChange memoryShownSpec)

/-- ITS FALSE NEIGHBOUR: 'it returns false'. Refute it at one input. -/
def memoryShownWrong : ChangeSpec := { name := "memoryShown", fn := fun _ => fun
  | [d] => { results := [.lit (.bool false)], args := [d] }
  | _ => none }
def MemoryShownWrongFalsely : Prop := memoryShownRow.holds Tryz.pinned (OpenSpec.ofChange memoryShownWrong)

/-- 'groovelaw15.MemoryMeaning': WHATEVER THE INPUT: true; the input reads as it did. -/
def memoryMeaningSpec : ChangeSpec := { name := "memoryMeaning", fn := fun _ => fun
  | [d1, d2] => { results := [.lit (.bool true)], args := [d1, d2] }
  | _ => none }
def memoryMeaningRow : OpenClaim := { program := "ytocbhlohcikapaagreatdoor", sum := "ce3556f8592ed2280c16b7c21bddedd1201a8af29ceb41eeedd88bcb09a32739", func := "groove/groovelaw15.MemoryMeaning", spec := "memoryMeaning", inPlace := ["internal/abi.NoEscape"], unfollowed := true, recurses := true, named := ["internal/strconv.uint64pow10", "math/bits.deBruijn32tab", "math/bits.deBruijn64tab"], plainKeys := false, apart := false, laid := [("math/bits.deBruijn32tab", laid_math_bits_deBruijn32tab), ("math/bits.deBruijn64tab", laid_math_bits_deBruijn64tab), ("internal/strconv.uint64pow10", laid_internal_strconv_uint64pow10)] }
def MemoryMeaningSaid : Prop := memoryMeaningRow.holds Tryz.pinned (OpenSpec.ofChange memoryMeaningSpec)

/-- ITS FALSE NEIGHBOUR: 'it returns false'. Refute it at one input. -/
def memoryMeaningWrong : ChangeSpec := { name := "memoryMeaning", fn := fun _ => fun
  | [d1, d2] => { results := [.lit (.bool false)], args := [d1, d2] }
  | _ => none }
def MemoryMeaningWrongFalsely : Prop := memoryMeaningRow.holds Tryz.pinned (OpenSpec.ofChange memoryMeaningWrong)

/-- 'groovelaw15.MemoryLocal': WHATEVER THE INPUT: true; the input reads as it did. -/
def memoryLocalSpec : ChangeSpec := { name := "memoryLocal", fn := fun _ => fun
  | [d1, d2, d3] => { results := [.lit (.bool true)], args := [d1, d2, d3] }
  | _ => none }
def memoryLocalRow : OpenClaim := { program := "ytocbhlohcikapaagreatdoor", sum := "ce3556f8592ed2280c16b7c21bddedd1201a8af29ceb41eeedd88bcb09a32739", func := "groove/groovelaw15.MemoryLocal", spec := "memoryLocal", inPlace := ["internal/abi.NoEscape"], unfollowed := true, recurses := true, named := ["internal/strconv.uint64pow10", "math/bits.deBruijn32tab", "math/bits.deBruijn64tab"], plainKeys := false, apart := false, laid := [("math/bits.deBruijn32tab", laid_math_bits_deBruijn32tab), ("math/bits.deBruijn64tab", laid_math_bits_deBruijn64tab), ("internal/strconv.uint64pow10", laid_internal_strconv_uint64pow10)] }
def MemoryLocalSaid : Prop := memoryLocalRow.holds Tryz.pinned (OpenSpec.ofChange memoryLocalSpec)

/-- ITS FALSE NEIGHBOUR: 'it returns false'. Refute it at one input. -/
def memoryLocalWrong : ChangeSpec := { name := "memoryLocal", fn := fun _ => fun
  | [d1, d2, d3] => { results := [.lit (.bool false)], args := [d1, d2, d3] }
  | _ => none }
def MemoryLocalWrongFalsely : Prop := memoryLocalRow.holds Tryz.pinned (OpenSpec.ofChange memoryLocalWrong)

/-- 'groovelaw15.MemoryReads': WHATEVER THE INPUT: true; the input reads as it did. -/
def memoryReadsSpec : ChangeSpec := { name := "memoryReads", fn := fun _ => fun
  | [d1, d2, d3, d4] => { results := [.lit (.bool true)], args := [d1, d2, d3, d4] }
  | _ => none }
def memoryReadsRow : OpenClaim := { program := "ytocbhlohcikapaagreatdoor", sum := "ce3556f8592ed2280c16b7c21bddedd1201a8af29ceb41eeedd88bcb09a32739", func := "groove/groovelaw15.MemoryReads", spec := "memoryReads", inPlace := ["internal/abi.NoEscape"], unfollowed := true, recurses := true, named := ["internal/strconv.uint64pow10", "math/bits.deBruijn32tab", "math/bits.deBruijn64tab"], plainKeys := false, apart := false, laid := [("math/bits.deBruijn32tab", laid_math_bits_deBruijn32tab), ("math/bits.deBruijn64tab", laid_math_bits_deBruijn64tab), ("internal/strconv.uint64pow10", laid_internal_strconv_uint64pow10)] }
def MemoryReadsSaid : Prop := memoryReadsRow.holds Tryz.pinned (OpenSpec.ofChange memoryReadsSpec)

/-- ITS FALSE NEIGHBOUR: 'it returns false'. Refute it at one input. -/
def memoryReadsWrong : ChangeSpec := { name := "memoryReads", fn := fun _ => fun
  | [d1, d2, d3, d4] => { results := [.lit (.bool false)], args := [d1, d2, d3, d4] }
  | _ => none }
def MemoryReadsWrongFalsely : Prop := memoryReadsRow.holds Tryz.pinned (OpenSpec.ofChange memoryReadsWrong)

/-- 'groovelaw15.MemoryFollow': WHATEVER THE INPUT: true; the input reads as it did. -/
def memoryFollowSpec : ChangeSpec := { name := "memoryFollow", fn := fun _ => fun
  | [d1, d2] => { results := [.lit (.bool true)], args := [d1, d2] }
  | _ => none }
def memoryFollowRow : OpenClaim := { program := "ytocbhlohcikapaagreatdoor", sum := "ce3556f8592ed2280c16b7c21bddedd1201a8af29ceb41eeedd88bcb09a32739", func := "groove/groovelaw15.MemoryFollow", spec := "memoryFollow", inPlace := ["internal/abi.NoEscape", "internal/bytealg.IndexByteString"], unfollowed := true, recurses := true, named := ["internal/strconv.uint64pow10", "math/bits.deBruijn32tab", "math/bits.deBruijn64tab"], plainKeys := false, apart := false, laid := [("math/bits.deBruijn32tab", laid_math_bits_deBruijn32tab), ("math/bits.deBruijn64tab", laid_math_bits_deBruijn64tab), ("internal/strconv.uint64pow10", laid_internal_strconv_uint64pow10)] }
def MemoryFollowSaid : Prop := memoryFollowRow.holds Tryz.pinned (OpenSpec.ofChange memoryFollowSpec)

/-- ITS FALSE NEIGHBOUR: 'it returns false'. Refute it at one input. -/
def memoryFollowWrong : ChangeSpec := { name := "memoryFollow", fn := fun _ => fun
  | [d1, d2] => { results := [.lit (.bool false)], args := [d1, d2] }
  | _ => none }
def MemoryFollowWrongFalsely : Prop := memoryFollowRow.holds Tryz.pinned (OpenSpec.ofChange memoryFollowWrong)

/-- 'groovelaw15.MemoryType': WHATEVER THE INPUT: true; the input reads as it did. -/
def memoryTypeSpec : ChangeSpec := { name := "memoryType", fn := fun _ => fun
  | [d] => { results := [.lit (.bool true)], args := [d] }
  | _ => none }
def memoryTypeRow : OpenClaim := { program := "ytocbhlohcikapaagreatdoor", sum := "ce3556f8592ed2280c16b7c21bddedd1201a8af29ceb41eeedd88bcb09a32739", func := "groove/groovelaw15.MemoryType", spec := "memoryType", inPlace := ["internal/abi.NoEscape", "internal/bytealg.IndexByteString"], unfollowed := true, recurses := true, named := ["internal/strconv.uint64pow10", "math/bits.deBruijn32tab", "math/bits.deBruijn64tab"], plainKeys := false, apart := false, laid := [("math/bits.deBruijn32tab", laid_math_bits_deBruijn32tab), ("math/bits.deBruijn64tab", laid_math_bits_deBruijn64tab), ("internal/strconv.uint64pow10", laid_internal_strconv_uint64pow10)] }
def MemoryTypeSaid : Prop := memoryTypeRow.holds Tryz.pinned (OpenSpec.ofChange memoryTypeSpec)

/-- ITS FALSE NEIGHBOUR: 'it returns false'. Refute it at one input. -/
def memoryTypeWrong : ChangeSpec := { name := "memoryType", fn := fun _ => fun
  | [d] => { results := [.lit (.bool false)], args := [d] }
  | _ => none }
def MemoryTypeWrongFalsely : Prop := memoryTypeRow.holds Tryz.pinned (OpenSpec.ofChange memoryTypeWrong)

/- THE SECOND FORM. 'bulk': how many values and letters a reading holds, each counted each time it is reached (what is shared counts as often as it is met; a slice's spare places count too). A statement '..UptoSaid' is the law's where the arguments, and the package variables that the reading takes, are together of bulk at most 1048576: NARROWER than '..Said'. Prove '..Said' where nothing that the law and all that it calls make is longer than what came in: it says more and counts as full. Else prove '..UptoSaid'. A law counts once. -/
mutual
def uptoBulk {H : Type} : DataW H → Nat
  | .lit (.string bytes) => bytes.length + 1
  | .lit _ => 1
  | .nil => 1
  | .ptr d => uptoBulk d + 1
  | .slice elems spare => uptoBulkAll elems + uptoBulkAll spare + 1
  | .agg parts => uptoBulkAll parts + 1
  | .iface _ d => uptoBulk d + 1
  | .map entries => uptoBulkEntries entries + 1
  | .held _ => 1
def uptoBulkAll {H : Type} : List (DataW H) → Nat
  | [] => 0
  | d :: r => uptoBulk d + uptoBulkAll r
def uptoBulkEntries {H : Type} : List (Lit × DataW H) → Nat
  | [] => 0
  | x :: r => uptoBulkEntry x + uptoBulkEntries r
def uptoBulkEntry {H : Type} : Lit × DataW H → Nat
  | (.string bytes, d) => bytes.length + uptoBulk d + 1
  | (_, d) => uptoBulk d + 1
 end
def uptoSmall : (H : Type) → List (DataW H) → Bool := fun _ ds => decide (uptoBulkAll ds ≤ 1048576)
def OpenSpec.upto (s : _root_.Go.ChangeSpec) : _root_.Go.OpenSpec := { _root_.Go.OpenSpec.ofChange s with cond := some uptoSmall }

/-- 'groovelaw13.MinimalCompares', WHERE WHAT IT READS IS OF BULK AT MOST 1048576: true; the input reads as it did. -/
def minimalComparesUptoRow : OpenClaim := { program := "ytocbhlohcikapaagreatdoor", sum := "ce3556f8592ed2280c16b7c21bddedd1201a8af29ceb41eeedd88bcb09a32739", func := "groove/groovelaw13.MinimalCompares", spec := "minimalCompares", inPlace := ["internal/abi.NoEscape"], unfollowed := true, recurses := true, named := ["internal/strconv.uint64pow10", "math/bits.deBruijn32tab", "math/bits.deBruijn64tab"], plainKeys := false, apart := false, laid := [("math/bits.deBruijn32tab", laid_math_bits_deBruijn32tab), ("math/bits.deBruijn64tab", laid_math_bits_deBruijn64tab), ("internal/strconv.uint64pow10", laid_internal_strconv_uint64pow10)], narrowed := true }
def MinimalComparesUptoSaid : Prop := minimalComparesUptoRow.holds Tryz.pinned (OpenSpec.upto minimalComparesSpec)

/-- 'groovelaw15.MemoryNumbers', WHERE WHAT IT READS IS OF BULK AT MOST 1048576: true; the input reads as it did. -/
def memoryNumbersUptoRow : OpenClaim := { program := "ytocbhlohcikapaagreatdoor", sum := "ce3556f8592ed2280c16b7c21bddedd1201a8af29ceb41eeedd88bcb09a32739", func := "groove/groovelaw15.MemoryNumbers", spec := "memoryNumbers", inPlace := ["internal/abi.NoEscape"], unfollowed := true, recurses := true, named := ["internal/strconv.uint64pow10", "math/bits.deBruijn32tab", "math/bits.deBruijn64tab"], plainKeys := false, apart := false, laid := [("math/bits.deBruijn32tab", laid_math_bits_deBruijn32tab), ("math/bits.deBruijn64tab", laid_math_bits_deBruijn64tab), ("internal/strconv.uint64pow10", laid_internal_strconv_uint64pow10)], narrowed := true }
def MemoryNumbersUptoSaid : Prop := memoryNumbersUptoRow.holds Tryz.pinned (OpenSpec.upto memoryNumbersSpec)

/-- 'groovelaw15.MemoryShown', WHERE WHAT IT READS IS OF BULK AT MOST 1048576: true; the input reads as it did. -/
def memoryShownUptoRow : OpenClaim := { program := "ytocbhlohcikapaagreatdoor", sum := "ce3556f8592ed2280c16b7c21bddedd1201a8af29ceb41eeedd88bcb09a32739", func := "groove/groovelaw15.MemoryShown", spec := "memoryShown", inPlace := ["internal/abi.NoEscape"], unfollowed := true, recurses := true, named := ["internal/strconv.uint64pow10", "math/bits.deBruijn32tab", "math/bits.deBruijn64tab"], plainKeys := false, apart := false, laid := [("math/bits.deBruijn32tab", laid_math_bits_deBruijn32tab), ("math/bits.deBruijn64tab", laid_math_bits_deBruijn64tab), ("internal/strconv.uint64pow10", laid_internal_strconv_uint64pow10)], narrowed := true }
def MemoryShownUptoSaid : Prop := memoryShownUptoRow.holds Tryz.pinned (OpenSpec.upto memoryShownSpec)

/-- 'groovelaw15.MemoryMeaning', WHERE WHAT IT READS IS OF BULK AT MOST 1048576: true; the input reads as it did. -/
def memoryMeaningUptoRow : OpenClaim := { program := "ytocbhlohcikapaagreatdoor", sum := "ce3556f8592ed2280c16b7c21bddedd1201a8af29ceb41eeedd88bcb09a32739", func := "groove/groovelaw15.MemoryMeaning", spec := "memoryMeaning", inPlace := ["internal/abi.NoEscape"], unfollowed := true, recurses := true, named := ["internal/strconv.uint64pow10", "math/bits.deBruijn32tab", "math/bits.deBruijn64tab"], plainKeys := false, apart := false, laid := [("math/bits.deBruijn32tab", laid_math_bits_deBruijn32tab), ("math/bits.deBruijn64tab", laid_math_bits_deBruijn64tab), ("internal/strconv.uint64pow10", laid_internal_strconv_uint64pow10)], narrowed := true }
def MemoryMeaningUptoSaid : Prop := memoryMeaningUptoRow.holds Tryz.pinned (OpenSpec.upto memoryMeaningSpec)

/-- 'groovelaw15.MemoryLocal', WHERE WHAT IT READS IS OF BULK AT MOST 1048576: true; the input reads as it did. -/
def memoryLocalUptoRow : OpenClaim := { program := "ytocbhlohcikapaagreatdoor", sum := "ce3556f8592ed2280c16b7c21bddedd1201a8af29ceb41eeedd88bcb09a32739", func := "groove/groovelaw15.MemoryLocal", spec := "memoryLocal", inPlace := ["internal/abi.NoEscape"], unfollowed := true, recurses := true, named := ["internal/strconv.uint64pow10", "math/bits.deBruijn32tab", "math/bits.deBruijn64tab"], plainKeys := false, apart := false, laid := [("math/bits.deBruijn32tab", laid_math_bits_deBruijn32tab), ("math/bits.deBruijn64tab", laid_math_bits_deBruijn64tab), ("internal/strconv.uint64pow10", laid_internal_strconv_uint64pow10)], narrowed := true }
def MemoryLocalUptoSaid : Prop := memoryLocalUptoRow.holds Tryz.pinned (OpenSpec.upto memoryLocalSpec)

/-- 'groovelaw15.MemoryReads', WHERE WHAT IT READS IS OF BULK AT MOST 1048576: true; the input reads as it did. -/
def memoryReadsUptoRow : OpenClaim := { program := "ytocbhlohcikapaagreatdoor", sum := "ce3556f8592ed2280c16b7c21bddedd1201a8af29ceb41eeedd88bcb09a32739", func := "groove/groovelaw15.MemoryReads", spec := "memoryReads", inPlace := ["internal/abi.NoEscape"], unfollowed := true, recurses := true, named := ["internal/strconv.uint64pow10", "math/bits.deBruijn32tab", "math/bits.deBruijn64tab"], plainKeys := false, apart := false, laid := [("math/bits.deBruijn32tab", laid_math_bits_deBruijn32tab), ("math/bits.deBruijn64tab", laid_math_bits_deBruijn64tab), ("internal/strconv.uint64pow10", laid_internal_strconv_uint64pow10)], narrowed := true }
def MemoryReadsUptoSaid : Prop := memoryReadsUptoRow.holds Tryz.pinned (OpenSpec.upto memoryReadsSpec)

/-- 'groovelaw15.MemoryFollow', WHERE WHAT IT READS IS OF BULK AT MOST 1048576: true; the input reads as it did. -/
def memoryFollowUptoRow : OpenClaim := { program := "ytocbhlohcikapaagreatdoor", sum := "ce3556f8592ed2280c16b7c21bddedd1201a8af29ceb41eeedd88bcb09a32739", func := "groove/groovelaw15.MemoryFollow", spec := "memoryFollow", inPlace := ["internal/abi.NoEscape", "internal/bytealg.IndexByteString"], unfollowed := true, recurses := true, named := ["internal/strconv.uint64pow10", "math/bits.deBruijn32tab", "math/bits.deBruijn64tab"], plainKeys := false, apart := false, laid := [("math/bits.deBruijn32tab", laid_math_bits_deBruijn32tab), ("math/bits.deBruijn64tab", laid_math_bits_deBruijn64tab), ("internal/strconv.uint64pow10", laid_internal_strconv_uint64pow10)], narrowed := true }
def MemoryFollowUptoSaid : Prop := memoryFollowUptoRow.holds Tryz.pinned (OpenSpec.upto memoryFollowSpec)

/-- 'groovelaw15.MemoryType', WHERE WHAT IT READS IS OF BULK AT MOST 1048576: true; the input reads as it did. -/
def memoryTypeUptoRow : OpenClaim := { program := "ytocbhlohcikapaagreatdoor", sum := "ce3556f8592ed2280c16b7c21bddedd1201a8af29ceb41eeedd88bcb09a32739", func := "groove/groovelaw15.MemoryType", spec := "memoryType", inPlace := ["internal/abi.NoEscape", "internal/bytealg.IndexByteString"], unfollowed := true, recurses := true, named := ["internal/strconv.uint64pow10", "math/bits.deBruijn32tab", "math/bits.deBruijn64tab"], plainKeys := false, apart := false, laid := [("math/bits.deBruijn32tab", laid_math_bits_deBruijn32tab), ("math/bits.deBruijn64tab", laid_math_bits_deBruijn64tab), ("internal/strconv.uint64pow10", laid_internal_strconv_uint64pow10)], narrowed := true }
def MemoryTypeUptoSaid : Prop := memoryTypeUptoRow.holds Tryz.pinned (OpenSpec.upto memoryTypeSpec)

end Rows
end Go.Proofs.YtocbhlohcikapaaGreatDoor
