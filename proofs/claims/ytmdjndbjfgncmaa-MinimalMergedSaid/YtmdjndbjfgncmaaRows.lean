/-
  No cell of these rows narrows 'for every input' (looked for: loops, veiled, ifaces, maps, wideKeys, modest, calm, conditions, laid).
  DERIVED. THE GIVEN ROWS OF THIS SEAT. 3 by the template 'for every input the law returns true; each argument reads behind the call as it read before'; 0 by the template 'total and deterministic' (their statements: YtmdjndbjfgncmaaTotals.lean).
  GIVEN WITH THE SEED: the statements are not yours to turn. If you find one false, say at which input.
  Laid BY PROGRAM, IN A SANDBOX (cutbox-rows.mjs): the forced cells as the released guide's own fill.sh prints them over the translation 13c7ae3475571220… (all of the seat's roots in one cut). By AI agents, Wed Nov 11 2026. No macro, syntax, notation, axiom, sorry.
-/
import Derived.Test.YtmdjndbjfgncmaaChecked
import GoSem.Claim
import GoSem.ClaimJoined
import GoSem.ClaimMapViews
import Derived.JoinedTies
import Derived.KernelRfl
namespace Go.Proofs.Ytmdjndbjfgncmaa
/- THE CELL 'sum', in the pinned program and in every row, IS THE sha256 OF THE DUMP (.gsa) THAT YtmdjndbjfgncmaaProg.lean LOADS. Nothing in Lean hashes anything: it is a label: what it is worth is what the hold of that sum in a sandbox is worth. -/
noncomputable def Try.pinned : Pinned := { name := "ytmdjndbjfgncmaa", sum := "13c7ae34755712208a40c1ac6a2af12064a6bd4a8c0ff14d8071870b3571b4bb", checked := Try.checked }
namespace Rows
def none {H : Type} : Left H := { results := [], args := [] }

/-- 'groovelaw13.MinimalParts': WHATEVER THE INPUT: true; the input reads as it did. -/
def minimalPartsSpec : ChangeSpec := { name := "minimalParts", fn := fun _ => fun
  | [d1, d2, d3] => { results := [.lit (.bool true)], args := [d1, d2, d3] }
  | _ => none }
def minimalPartsRow : OpenClaim := { program := "ytmdjndbjfgncmaa", sum := "13c7ae34755712208a40c1ac6a2af12064a6bd4a8c0ff14d8071870b3571b4bb", func := "groove/groovelaw13.MinimalParts", spec := "minimalParts", unfollowed := true, recurses := true, plainKeys := false, apart := false }
def MinimalPartsSaid : Prop := minimalPartsRow.holds Try.pinned (OpenSpec.ofChange minimalPartsSpec)

/-- ITS FALSE NEIGHBOUR: 'it returns false'. Refute it at one input. -/
def minimalPartsWrong : ChangeSpec := { name := "minimalParts", fn := fun _ => fun
  | [d1, d2, d3] => { results := [.lit (.bool false)], args := [d1, d2, d3] }
  | _ => none }
def MinimalPartsWrongFalsely : Prop := minimalPartsRow.holds Try.pinned (OpenSpec.ofChange minimalPartsWrong)

/-- 'groovelaw13.MinimalMerged': WHATEVER THE INPUT: true; the input reads as it did. -/
def minimalMergedSpec : ChangeSpec := { name := "minimalMerged", fn := fun _ => fun
  | [d1, d2, d3] => { results := [.lit (.bool true)], args := [d1, d2, d3] }
  | _ => none }
def minimalMergedRow : OpenClaim := { program := "ytmdjndbjfgncmaa", sum := "13c7ae34755712208a40c1ac6a2af12064a6bd4a8c0ff14d8071870b3571b4bb", func := "groove/groovelaw13.MinimalMerged", spec := "minimalMerged", unfollowed := true, recurses := true, plainKeys := false, apart := false }
def MinimalMergedSaid : Prop := minimalMergedRow.holds Try.pinned (OpenSpec.ofChange minimalMergedSpec)

/-- ITS FALSE NEIGHBOUR: 'it returns false'. Refute it at one input. -/
def minimalMergedWrong : ChangeSpec := { name := "minimalMerged", fn := fun _ => fun
  | [d1, d2, d3] => { results := [.lit (.bool false)], args := [d1, d2, d3] }
  | _ => none }
def MinimalMergedWrongFalsely : Prop := minimalMergedRow.holds Try.pinned (OpenSpec.ofChange minimalMergedWrong)

/-- 'groovelaw13.MinimalClasses': WHATEVER THE INPUT: true; the input reads as it did. -/
def minimalClassesSpec : ChangeSpec := { name := "minimalClasses", fn := fun _ => fun
  | [d1, d2, d3] => { results := [.lit (.bool true)], args := [d1, d2, d3] }
  | _ => none }
def minimalClassesRow : OpenClaim := { program := "ytmdjndbjfgncmaa", sum := "13c7ae34755712208a40c1ac6a2af12064a6bd4a8c0ff14d8071870b3571b4bb", func := "groove/groovelaw13.MinimalClasses", spec := "minimalClasses", unfollowed := true, recurses := true, plainKeys := false, apart := false }
def MinimalClassesSaid : Prop := minimalClassesRow.holds Try.pinned (OpenSpec.ofChange minimalClassesSpec)

/-- ITS FALSE NEIGHBOUR: 'it returns false'. Refute it at one input. -/
def minimalClassesWrong : ChangeSpec := { name := "minimalClasses", fn := fun _ => fun
  | [d1, d2, d3] => { results := [.lit (.bool false)], args := [d1, d2, d3] }
  | _ => none }
def MinimalClassesWrongFalsely : Prop := minimalClassesRow.holds Try.pinned (OpenSpec.ofChange minimalClassesWrong)

/- THE SECOND FORM. 'bulk': how many values and letters a reading holds, each counted each time it is reached (what is shared counts as often as it is met; a slice's spare places count too). A statement '..UptoSaid' is the law's where the arguments, and the package variables that the reading takes, are together of bulk at most 1048576: NARROWER than '..Said'. Prove '..Said' where nothing that the law and all that it calls make is longer than what came in: it says more and counts as full. Else prove '..UptoSaid'. A law counts once. -/
mutual
def uptoBulk {H : Type} : DataW H → Nat
  | .lit (.string bytes) => bytes.length + 1
  | .lit _ => 1
  | .nil => 1
  | .ptr d => uptoBulk d + 1
  | .slice elems spare => uptoBulkAll elems + uptoBulkAll spare + 1
  | .agg parts => uptoBulkAll parts + 1
  | .iface _ d => uptoBulk d + 1
  | .map entries => uptoBulkEntries entries + 1
  | .held _ => 1
def uptoBulkAll {H : Type} : List (DataW H) → Nat
  | [] => 0
  | d :: r => uptoBulk d + uptoBulkAll r
def uptoBulkEntries {H : Type} : List (Lit × DataW H) → Nat
  | [] => 0
  | x :: r => uptoBulkEntry x + uptoBulkEntries r
def uptoBulkEntry {H : Type} : Lit × DataW H → Nat
  | (.string bytes, d) => bytes.length + uptoBulk d + 1
  | (_, d) => uptoBulk d + 1
 end
def uptoSmall : (H : Type) → List (DataW H) → Bool := fun _ ds => decide (uptoBulkAll ds ≤ 1048576)
def OpenSpec.upto (s : _root_.Go.ChangeSpec) : _root_.Go.OpenSpec := { _root_.Go.OpenSpec.ofChange s with cond := some uptoSmall }

/-- 'groovelaw13.MinimalParts', WHERE WHAT IT READS IS OF BULK AT MOST 1048576: true; the input reads as it did. -/
def minimalPartsUptoRow : OpenClaim := { program := "ytmdjndbjfgncmaa", sum := "13c7ae34755712208a40c1ac6a2af12064a6bd4a8c0ff14d8071870b3571b4bb", func := "groove/groovelaw13.MinimalParts", spec := "minimalParts", unfollowed := true, recurses := true, plainKeys := false, apart := false, narrowed := true }
def MinimalPartsUptoSaid : Prop := minimalPartsUptoRow.holds Try.pinned (OpenSpec.upto minimalPartsSpec)

/-- 'groovelaw13.MinimalMerged', WHERE WHAT IT READS IS OF BULK AT MOST 1048576: true; the input reads as it did. -/
def minimalMergedUptoRow : OpenClaim := { program := "ytmdjndbjfgncmaa", sum := "13c7ae34755712208a40c1ac6a2af12064a6bd4a8c0ff14d8071870b3571b4bb", func := "groove/groovelaw13.MinimalMerged", spec := "minimalMerged", unfollowed := true, recurses := true, plainKeys := false, apart := false, narrowed := true }
def MinimalMergedUptoSaid : Prop := minimalMergedUptoRow.holds Try.pinned (OpenSpec.upto minimalMergedSpec)

/-- 'groovelaw13.MinimalClasses', WHERE WHAT IT READS IS OF BULK AT MOST 1048576: true; the input reads as it did. -/
def minimalClassesUptoRow : OpenClaim := { program := "ytmdjndbjfgncmaa", sum := "13c7ae34755712208a40c1ac6a2af12064a6bd4a8c0ff14d8071870b3571b4bb", func := "groove/groovelaw13.MinimalClasses", spec := "minimalClasses", unfollowed := true, recurses := true, plainKeys := false, apart := false, narrowed := true }
def MinimalClassesUptoSaid : Prop := minimalClassesUptoRow.holds Try.pinned (OpenSpec.upto minimalClassesSpec)

end Rows
end Go.Proofs.Ytmdjndbjfgncmaa
