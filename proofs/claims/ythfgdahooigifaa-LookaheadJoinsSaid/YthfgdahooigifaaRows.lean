/-
  No cell of these rows narrows 'for every input' (looked for: loops, veiled, ifaces, maps, wideKeys, modest, calm, conditions, laid).
  DERIVED. THE GIVEN ROWS OF THIS SEAT. 2 by the template 'for every input the law returns true; each argument reads behind the call as it read before'; 0 by the template 'total and deterministic' (their statements: YthfgdahooigifaaTotals.lean).
  GIVEN WITH THE SEED: the statements are not yours to turn. If you find one false, say at which input.
  Laid BY PROGRAM, IN A SANDBOX (cutbox-rows.mjs): the forced cells as the released guide's own fill.sh prints them over the translation 9d3e1be5782e2c13… (all of the seat's roots in one cut). By AI agents, Wed Nov 11 2026. No macro, syntax, notation, axiom, sorry.
-/
import Derived.Test.YthfgdahooigifaaChecked
import GoSem.Claim
import GoSem.ClaimJoined
import GoSem.ClaimMapViews
import Derived.JoinedTies
import Derived.KernelRfl
namespace Go.Proofs.Ythfgdahooigifaa
/- THE CELL 'sum', in the pinned program and in every row, IS THE sha256 OF THE DUMP (.gsa) THAT YthfgdahooigifaaProg.lean LOADS. Nothing in Lean hashes anything: it is a label: what it is worth is what the hold of that sum in a sandbox is worth. -/
noncomputable def Try.pinned : Pinned := { name := "ythfgdahooigifaa", sum := "9d3e1be5782e2c13b9c1c19d9aea27b4a07b2b15f74c5c0b50b7eb6a1ee267d3", checked := Try.checked }
namespace Rows
def none {H : Type} : Left H := { results := [], args := [] }

/-- 'groovelaw32.LookaheadWrites': WHATEVER THE INPUT: true; the input reads as it did. -/
def lookaheadWritesSpec : ChangeSpec := { name := "lookaheadWrites", fn := fun _ => fun
  | [d1, d2, d3] => { results := [.lit (.bool true)], args := [d1, d2, d3] }
  | _ => none }
def lookaheadWritesRow : OpenClaim := { program := "ythfgdahooigifaa", sum := "9d3e1be5782e2c13b9c1c19d9aea27b4a07b2b15f74c5c0b50b7eb6a1ee267d3", func := "groove/groovelaw32.LookaheadWrites", spec := "lookaheadWrites", inPlace := ["internal/bytealg.IndexByteString", "internal/abi.NoEscape"], unfollowed := true, recurses := true, plainKeys := false, apart := false }
def LookaheadWritesSaid : Prop := lookaheadWritesRow.holds Try.pinned (OpenSpec.ofChange lookaheadWritesSpec)

/-- ITS FALSE NEIGHBOUR: 'it returns false'. Refute it at one input. -/
def lookaheadWritesWrong : ChangeSpec := { name := "lookaheadWrites", fn := fun _ => fun
  | [d1, d2, d3] => { results := [.lit (.bool false)], args := [d1, d2, d3] }
  | _ => none }
def LookaheadWritesWrongFalsely : Prop := lookaheadWritesRow.holds Try.pinned (OpenSpec.ofChange lookaheadWritesWrong)

/-- 'groovelaw32.LookaheadJoins': WHATEVER THE INPUT: true; the input reads as it did. -/
def lookaheadJoinsSpec : ChangeSpec := { name := "lookaheadJoins", fn := fun _ => fun
  | [d1, d2, d3] => { results := [.lit (.bool true)], args := [d1, d2, d3] }
  | _ => none }
def lookaheadJoinsRow : OpenClaim := { program := "ythfgdahooigifaa", sum := "9d3e1be5782e2c13b9c1c19d9aea27b4a07b2b15f74c5c0b50b7eb6a1ee267d3", func := "groove/groovelaw32.LookaheadJoins", spec := "lookaheadJoins", inPlace := ["internal/bytealg.IndexByteString", "internal/abi.NoEscape"], unfollowed := true, recurses := true, plainKeys := false, apart := false }
def LookaheadJoinsSaid : Prop := lookaheadJoinsRow.holds Try.pinned (OpenSpec.ofChange lookaheadJoinsSpec)

/-- ITS FALSE NEIGHBOUR: 'it returns false'. Refute it at one input. -/
def lookaheadJoinsWrong : ChangeSpec := { name := "lookaheadJoins", fn := fun _ => fun
  | [d1, d2, d3] => { results := [.lit (.bool false)], args := [d1, d2, d3] }
  | _ => none }
def LookaheadJoinsWrongFalsely : Prop := lookaheadJoinsRow.holds Try.pinned (OpenSpec.ofChange lookaheadJoinsWrong)

/- THE SECOND FORM. 'bulk': how many values and letters a reading holds, each counted each time it is reached (what is shared counts as often as it is met; a slice's spare places count too). A statement '..UptoSaid' is the law's where the arguments, and the package variables that the reading takes, are together of bulk at most 1048576: NARROWER than '..Said'. Prove '..Said' where nothing that the law and all that it calls make is longer than what came in: it says more and counts as full. Else prove '..UptoSaid'. A law counts once. -/
mutual
def uptoBulk {H : Type} : DataW H → Nat
  | .lit (.string bytes) => bytes.length + 1
  | .lit _ => 1
  | .nil => 1
  | .ptr d => uptoBulk d + 1
  | .slice elems spare => uptoBulkAll elems + uptoBulkAll spare + 1
  | .agg parts => uptoBulkAll parts + 1
  | .iface _ d => uptoBulk d + 1
  | .map entries => uptoBulkEntries entries + 1
  | .held _ => 1
def uptoBulkAll {H : Type} : List (DataW H) → Nat
  | [] => 0
  | d :: r => uptoBulk d + uptoBulkAll r
def uptoBulkEntries {H : Type} : List (Lit × DataW H) → Nat
  | [] => 0
  | x :: r => uptoBulkEntry x + uptoBulkEntries r
def uptoBulkEntry {H : Type} : Lit × DataW H → Nat
  | (.string bytes, d) => bytes.length + uptoBulk d + 1
  | (_, d) => uptoBulk d + 1
 end
def uptoSmall : (H : Type) → List (DataW H) → Bool := fun _ ds => decide (uptoBulkAll ds ≤ 1048576)
def OpenSpec.upto (s : _root_.Go.ChangeSpec) : _root_.Go.OpenSpec := { _root_.Go.OpenSpec.ofChange s with cond := some uptoSmall }

/-- 'groovelaw32.LookaheadWrites', WHERE WHAT IT READS IS OF BULK AT MOST 1048576: true; the input reads as it did. -/
def lookaheadWritesUptoRow : OpenClaim := { program := "ythfgdahooigifaa", sum := "9d3e1be5782e2c13b9c1c19d9aea27b4a07b2b15f74c5c0b50b7eb6a1ee267d3", func := "groove/groovelaw32.LookaheadWrites", spec := "lookaheadWrites", inPlace := ["internal/bytealg.IndexByteString", "internal/abi.NoEscape"], unfollowed := true, recurses := true, plainKeys := false, apart := false, narrowed := true }
def LookaheadWritesUptoSaid : Prop := lookaheadWritesUptoRow.holds Try.pinned (OpenSpec.upto lookaheadWritesSpec)

/-- 'groovelaw32.LookaheadJoins', WHERE WHAT IT READS IS OF BULK AT MOST 1048576: true; the input reads as it did. -/
def lookaheadJoinsUptoRow : OpenClaim := { program := "ythfgdahooigifaa", sum := "9d3e1be5782e2c13b9c1c19d9aea27b4a07b2b15f74c5c0b50b7eb6a1ee267d3", func := "groove/groovelaw32.LookaheadJoins", spec := "lookaheadJoins", inPlace := ["internal/bytealg.IndexByteString", "internal/abi.NoEscape"], unfollowed := true, recurses := true, plainKeys := false, apart := false, narrowed := true }
def LookaheadJoinsUptoSaid : Prop := lookaheadJoinsUptoRow.holds Try.pinned (OpenSpec.upto lookaheadJoinsSpec)

end Rows
end Go.Proofs.Ythfgdahooigifaa
