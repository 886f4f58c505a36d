/-
  No cell of these rows narrows 'for every input' (looked for: loops, veiled, ifaces, maps, wideKeys, modest, calm, conditions, laid).
  DERIVED. THE GIVEN ROWS OF THIS SEAT. 4 by the template 'for every input the law returns true; each argument reads behind the call as it read before'; 0 by the template 'total and deterministic' (their statements: YtlgjhmenjfmpfaaTotals.lean).
  GIVEN WITH THE SEED: the statements are not yours to turn. If you find one false, say at which input.
  Laid BY PROGRAM, IN A SANDBOX (cutbox-rows.mjs): the forced cells as the released guide's own fill.sh prints them over the translation 74de60c12f3adcd5… (all of the seat's roots in one cut). By AI agents, Wed Nov 11 2026. No macro, syntax, notation, axiom, sorry.
-/
import Derived.Test.YtlgjhmenjfmpfaaChecked
import GoSem.Claim
import GoSem.ClaimJoined
import GoSem.ClaimMapViews
import Derived.JoinedTies
import Derived.KernelRfl
namespace Go.Proofs.Ytlgjhmenjfmpfaa
/- THE CELL 'sum', in the pinned program and in every row, IS THE sha256 OF THE DUMP (.gsa) THAT YtlgjhmenjfmpfaaProg.lean LOADS. Nothing in Lean hashes anything: it is a label: what it is worth is what the hold of that sum in a sandbox is worth. -/
noncomputable def Try.pinned : Pinned := { name := "ytlgjhmenjfmpfaa", sum := "74de60c12f3adcd5744b3efa75f27eb90bc6843024cd6577fae1a60045202078", checked := Try.checked }
namespace Rows
def none {H : Type} : Left H := { results := [], args := [] }

/-- 'groovelaw18.ChargeGraphs': WHATEVER THE INPUT: true; the input reads as it did. -/
def chargeGraphsSpec : ChangeSpec := { name := "chargeGraphs", fn := fun _ => fun
  | [d1, d2] => { results := [.lit (.bool true)], args := [d1, d2] }
  | _ => none }
def chargeGraphsRow : OpenClaim := { program := "ytlgjhmenjfmpfaa", sum := "74de60c12f3adcd5744b3efa75f27eb90bc6843024cd6577fae1a60045202078", func := "groove/groovelaw18.ChargeGraphs", spec := "chargeGraphs", inPlace := ["internal/bytealg.IndexByteString"], unfollowed := true, recurses := true, apart := false }
def ChargeGraphsSaid : Prop := chargeGraphsRow.holds Try.pinned (OpenSpec.ofChange chargeGraphsSpec)

/-- ITS FALSE NEIGHBOUR: 'it returns false'. Refute it at one input. -/
def chargeGraphsWrong : ChangeSpec := { name := "chargeGraphs", fn := fun _ => fun
  | [d1, d2] => { results := [.lit (.bool false)], args := [d1, d2] }
  | _ => none }
def ChargeGraphsWrongFalsely : Prop := chargeGraphsRow.holds Try.pinned (OpenSpec.ofChange chargeGraphsWrong)

/-- 'groovelaw18.ChargeAccepts': WHATEVER THE INPUT: true; the input reads as it did. -/
def chargeAcceptsSpec : ChangeSpec := { name := "chargeAccepts", fn := fun _ => fun
  | [d1, d2] => { results := [.lit (.bool true)], args := [d1, d2] }
  | _ => none }
def chargeAcceptsRow : OpenClaim := { program := "ytlgjhmenjfmpfaa", sum := "74de60c12f3adcd5744b3efa75f27eb90bc6843024cd6577fae1a60045202078", func := "groove/groovelaw18.ChargeAccepts", spec := "chargeAccepts", inPlace := ["internal/bytealg.IndexByteString"], unfollowed := true, recurses := true, apart := false }
def ChargeAcceptsSaid : Prop := chargeAcceptsRow.holds Try.pinned (OpenSpec.ofChange chargeAcceptsSpec)

/-- ITS FALSE NEIGHBOUR: 'it returns false'. Refute it at one input. -/
def chargeAcceptsWrong : ChangeSpec := { name := "chargeAccepts", fn := fun _ => fun
  | [d1, d2] => { results := [.lit (.bool false)], args := [d1, d2] }
  | _ => none }
def ChargeAcceptsWrongFalsely : Prop := chargeAcceptsRow.holds Try.pinned (OpenSpec.ofChange chargeAcceptsWrong)

/-- 'groovelaw18.ChargeNulls': WHATEVER THE INPUT: true; the input reads as it did. -/
def chargeNullsSpec : ChangeSpec := { name := "chargeNulls", fn := fun _ => fun
  | [d1, d2] => { results := [.lit (.bool true)], args := [d1, d2] }
  | _ => none }
def chargeNullsRow : OpenClaim := { program := "ytlgjhmenjfmpfaa", sum := "74de60c12f3adcd5744b3efa75f27eb90bc6843024cd6577fae1a60045202078", func := "groove/groovelaw18.ChargeNulls", spec := "chargeNulls", inPlace := ["internal/bytealg.IndexByteString"], unfollowed := true, recurses := true, apart := false }
def ChargeNullsSaid : Prop := chargeNullsRow.holds Try.pinned (OpenSpec.ofChange chargeNullsSpec)

/-- ITS FALSE NEIGHBOUR: 'it returns false'. Refute it at one input. -/
def chargeNullsWrong : ChangeSpec := { name := "chargeNulls", fn := fun _ => fun
  | [d1, d2] => { results := [.lit (.bool false)], args := [d1, d2] }
  | _ => none }
def ChargeNullsWrongFalsely : Prop := chargeNullsRow.holds Try.pinned (OpenSpec.ofChange chargeNullsWrong)

/-- 'groovelaw18.ChargeSeconds': WHATEVER THE INPUT: true; the input reads as it did. -/
def chargeSecondsSpec : ChangeSpec := { name := "chargeSeconds", fn := fun _ => fun
  | [d1, d2, d3] => { results := [.lit (.bool true)], args := [d1, d2, d3] }
  | _ => none }
def chargeSecondsRow : OpenClaim := { program := "ytlgjhmenjfmpfaa", sum := "74de60c12f3adcd5744b3efa75f27eb90bc6843024cd6577fae1a60045202078", func := "groove/groovelaw18.ChargeSeconds", spec := "chargeSeconds", inPlace := ["internal/bytealg.IndexByteString"], unfollowed := true, recurses := true, apart := false }
def ChargeSecondsSaid : Prop := chargeSecondsRow.holds Try.pinned (OpenSpec.ofChange chargeSecondsSpec)

/-- ITS FALSE NEIGHBOUR: 'it returns false'. Refute it at one input. -/
def chargeSecondsWrong : ChangeSpec := { name := "chargeSeconds", fn := fun _ => fun
  | [d1, d2, d3] => { results := [.lit (.bool false)], args := [d1, d2, d3] }
  | _ => none }
def ChargeSecondsWrongFalsely : Prop := chargeSecondsRow.holds Try.pinned (OpenSpec.ofChange chargeSecondsWrong)

/- THE SECOND FORM. 'bulk': how many values and letters a reading holds, each counted each time it is reached (what is shared counts as often as it is met; a slice's spare places count too). A statement '..UptoSaid' is the law's where the arguments, and the package variables that the reading takes, are together of bulk at most 1048576: NARROWER than '..Said'. Prove '..Said' where nothing that the law and all that it calls make is longer than what came in: it says more and counts as full. Else prove '..UptoSaid'. A law counts once. -/
mutual
def uptoBulk {H : Type} : DataW H → Nat
  | .lit (.string bytes) => bytes.length + 1
  | .lit _ => 1
  | .nil => 1
  | .ptr d => uptoBulk d + 1
  | .slice elems spare => uptoBulkAll elems + uptoBulkAll spare + 1
  | .agg parts => uptoBulkAll parts + 1
  | .iface _ d => uptoBulk d + 1
  | .map entries => uptoBulkEntries entries + 1
  | .held _ => 1
def uptoBulkAll {H : Type} : List (DataW H) → Nat
  | [] => 0
  | d :: r => uptoBulk d + uptoBulkAll r
def uptoBulkEntries {H : Type} : List (Lit × DataW H) → Nat
  | [] => 0
  | x :: r => uptoBulkEntry x + uptoBulkEntries r
def uptoBulkEntry {H : Type} : Lit × DataW H → Nat
  | (.string bytes, d) => bytes.length + uptoBulk d + 1
  | (_, d) => uptoBulk d + 1
 end
def uptoSmall : (H : Type) → List (DataW H) → Bool := fun _ ds => decide (uptoBulkAll ds ≤ 1048576)
def OpenSpec.upto (s : _root_.Go.ChangeSpec) : _root_.Go.OpenSpec := { _root_.Go.OpenSpec.ofChange s with cond := some uptoSmall }

/-- 'groovelaw18.ChargeGraphs', WHERE WHAT IT READS IS OF BULK AT MOST 1048576: true; the input reads as it did. -/
def chargeGraphsUptoRow : OpenClaim := { program := "ytlgjhmenjfmpfaa", sum := "74de60c12f3adcd5744b3efa75f27eb90bc6843024cd6577fae1a60045202078", func := "groove/groovelaw18.ChargeGraphs", spec := "chargeGraphs", inPlace := ["internal/bytealg.IndexByteString"], unfollowed := true, recurses := true, apart := false, narrowed := true }
def ChargeGraphsUptoSaid : Prop := chargeGraphsUptoRow.holds Try.pinned (OpenSpec.upto chargeGraphsSpec)

/-- 'groovelaw18.ChargeAccepts', WHERE WHAT IT READS IS OF BULK AT MOST 1048576: true; the input reads as it did. -/
def chargeAcceptsUptoRow : OpenClaim := { program := "ytlgjhmenjfmpfaa", sum := "74de60c12f3adcd5744b3efa75f27eb90bc6843024cd6577fae1a60045202078", func := "groove/groovelaw18.ChargeAccepts", spec := "chargeAccepts", inPlace := ["internal/bytealg.IndexByteString"], unfollowed := true, recurses := true, apart := false, narrowed := true }
def ChargeAcceptsUptoSaid : Prop := chargeAcceptsUptoRow.holds Try.pinned (OpenSpec.upto chargeAcceptsSpec)

/-- 'groovelaw18.ChargeNulls', WHERE WHAT IT READS IS OF BULK AT MOST 1048576: true; the input reads as it did. -/
def chargeNullsUptoRow : OpenClaim := { program := "ytlgjhmenjfmpfaa", sum := "74de60c12f3adcd5744b3efa75f27eb90bc6843024cd6577fae1a60045202078", func := "groove/groovelaw18.ChargeNulls", spec := "chargeNulls", inPlace := ["internal/bytealg.IndexByteString"], unfollowed := true, recurses := true, apart := false, narrowed := true }
def ChargeNullsUptoSaid : Prop := chargeNullsUptoRow.holds Try.pinned (OpenSpec.upto chargeNullsSpec)

/-- 'groovelaw18.ChargeSeconds', WHERE WHAT IT READS IS OF BULK AT MOST 1048576: true; the input reads as it did. -/
def chargeSecondsUptoRow : OpenClaim := { program := "ytlgjhmenjfmpfaa", sum := "74de60c12f3adcd5744b3efa75f27eb90bc6843024cd6577fae1a60045202078", func := "groove/groovelaw18.ChargeSeconds", spec := "chargeSeconds", inPlace := ["internal/bytealg.IndexByteString"], unfollowed := true, recurses := true, apart := false, narrowed := true }
def ChargeSecondsUptoSaid : Prop := chargeSecondsUptoRow.holds Try.pinned (OpenSpec.upto chargeSecondsSpec)

end Rows
end Go.Proofs.Ytlgjhmenjfmpfaa
