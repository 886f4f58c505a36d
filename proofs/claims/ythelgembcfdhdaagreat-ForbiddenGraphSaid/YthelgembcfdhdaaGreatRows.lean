/-
  No cell of these rows narrows 'for every input' (looked for: loops, veiled, ifaces, maps, wideKeys, modest, calm, conditions, laid).
  DERIVED. THE GIVEN ROWS OF THIS SEAT. 3 by the template 'for every input the law returns true; each argument reads behind the call as it read before'; 0 by the template 'total and deterministic' (their statements: YthelgembcfdhdaaGreatTotals.lean).
  GIVEN WITH THE SEED: the statements are not yours to turn. If you find one false, say at which input.
  Laid BY PROGRAM, IN A SANDBOX (cutbox-rows.mjs): the forced cells as the released guide's own fill.sh prints them over the translation 18ff6a1fdec1f2b4… (all of the seat's roots in one cut). By AI agents, Wed Nov 11 2026. No macro, syntax, notation, axiom, sorry.
-/
import Derived.Test.YthelgembcfdhdaaGreatChecked
import GoSem.Claim
import GoSem.ClaimJoined
import GoSem.ClaimMapViews
import Derived.JoinedTies
import Derived.KernelRfl
namespace Go.Proofs.YthelgembcfdhdaaGreat
/- THE CELL 'sum', in the pinned program and in every row, IS THE sha256 OF THE DUMP (.gsa) THAT YthelgembcfdhdaaGreatProg.lean LOADS. Nothing in Lean hashes anything: it is a label: what it is worth is what the hold of that sum in a sandbox is worth. -/
noncomputable def Tryz.pinned : Pinned := { name := "ythelgembcfdhdaagreat", sum := "18ff6a1fdec1f2b423c1bef7c12475490807cf9157bbeec4b0b31a0f3fedf448", checked := Tryz.checked }
namespace Rows
def none {H : Type} : Left H := { results := [], args := [] }

/-- 'groovelaw14.ForbiddenGraph': WHATEVER THE INPUT: true; the input reads as it did. -/
def forbiddenGraphSpec : ChangeSpec := { name := "forbiddenGraph", fn := fun _ => fun
  | [d1, d2] => { results := [.lit (.bool true)], args := [d1, d2] }
  | _ => none }
def forbiddenGraphRow : OpenClaim := { program := "ythelgembcfdhdaagreat", sum := "18ff6a1fdec1f2b423c1bef7c12475490807cf9157bbeec4b0b31a0f3fedf448", func := "groove/groovelaw14.ForbiddenGraph", spec := "forbiddenGraph", inPlace := ["internal/bytealg.IndexByteString", "internal/bytealg.abigen_runtime_cmpstring", "internal/bytealg.IndexString"], unfollowed := true, recurses := true, named := ["internal/bytealg.MaxLen"], apart := false }
def ForbiddenGraphSaid : Prop := forbiddenGraphRow.holds Tryz.pinned (OpenSpec.ofChange forbiddenGraphSpec)

/-- ITS FALSE NEIGHBOUR: 'it returns false'. Refute it at one input. -/
def forbiddenGraphWrong : ChangeSpec := { name := "forbiddenGraph", fn := fun _ => fun
  | [d1, d2] => { results := [.lit (.bool false)], args := [d1, d2] }
  | _ => none }
def ForbiddenGraphWrongFalsely : Prop := forbiddenGraphRow.holds Tryz.pinned (OpenSpec.ofChange forbiddenGraphWrong)

/-- 'groovelaw14.ForbiddenMore': WHATEVER THE INPUT: true; the input reads as it did. -/
def forbiddenMoreSpec : ChangeSpec := { name := "forbiddenMore", fn := fun _ => fun
  | [d1, d2, d3, d4] => { results := [.lit (.bool true)], args := [d1, d2, d3, d4] }
  | _ => none }
def forbiddenMoreRow : OpenClaim := { program := "ythelgembcfdhdaagreat", sum := "18ff6a1fdec1f2b423c1bef7c12475490807cf9157bbeec4b0b31a0f3fedf448", func := "groove/groovelaw14.ForbiddenMore", spec := "forbiddenMore", inPlace := ["internal/bytealg.IndexByteString", "internal/bytealg.abigen_runtime_cmpstring", "internal/bytealg.IndexString"], unfollowed := true, recurses := true, named := ["internal/bytealg.MaxLen"], apart := false }
def ForbiddenMoreSaid : Prop := forbiddenMoreRow.holds Tryz.pinned (OpenSpec.ofChange forbiddenMoreSpec)

/-- ITS FALSE NEIGHBOUR: 'it returns false'. Refute it at one input. -/
def forbiddenMoreWrong : ChangeSpec := { name := "forbiddenMore", fn := fun _ => fun
  | [d1, d2, d3, d4] => { results := [.lit (.bool false)], args := [d1, d2, d3, d4] }
  | _ => none }
def ForbiddenMoreWrongFalsely : Prop := forbiddenMoreRow.holds Tryz.pinned (OpenSpec.ofChange forbiddenMoreWrong)

/-- 'groovelaw14.ForbiddenWords': WHATEVER THE INPUT: true; the input reads as it did. -/
def forbiddenWordsSpec : ChangeSpec := { name := "forbiddenWords", fn := fun _ => fun
  | [d1, d2, d3] => { results := [.lit (.bool true)], args := [d1, d2, d3] }
  | _ => none }
def forbiddenWordsRow : OpenClaim := { program := "ythelgembcfdhdaagreat", sum := "18ff6a1fdec1f2b423c1bef7c12475490807cf9157bbeec4b0b31a0f3fedf448", func := "groove/groovelaw14.ForbiddenWords", spec := "forbiddenWords", inPlace := ["internal/bytealg.IndexByteString", "internal/bytealg.abigen_runtime_cmpstring", "internal/bytealg.IndexString"], unfollowed := true, recurses := true, named := ["internal/bytealg.MaxLen"], apart := false }
def ForbiddenWordsSaid : Prop := forbiddenWordsRow.holds Tryz.pinned (OpenSpec.ofChange forbiddenWordsSpec)

/-- ITS FALSE NEIGHBOUR: 'it returns false'. Refute it at one input. -/
def forbiddenWordsWrong : ChangeSpec := { name := "forbiddenWords", fn := fun _ => fun
  | [d1, d2, d3] => { results := [.lit (.bool false)], args := [d1, d2, d3] }
  | _ => none }
def ForbiddenWordsWrongFalsely : Prop := forbiddenWordsRow.holds Tryz.pinned (OpenSpec.ofChange forbiddenWordsWrong)

/- THE SECOND FORM. 'bulk': how many values and letters a reading holds, each counted each time it is reached (what is shared counts as often as it is met; a slice's spare places count too). A statement '..UptoSaid' is the law's where the arguments, and the package variables that the reading takes, are together of bulk at most 1048576: NARROWER than '..Said'. Prove '..Said' where nothing that the law and all that it calls make is longer than what came in: it says more and counts as full. Else prove '..UptoSaid'. A law counts once. -/
mutual
def uptoBulk {H : Type} : DataW H → Nat
  | .lit (.string bytes) => bytes.length + 1
  | .lit _ => 1
  | .nil => 1
  | .ptr d => uptoBulk d + 1
  | .slice elems spare => uptoBulkAll elems + uptoBulkAll spare + 1
  | .agg parts => uptoBulkAll parts + 1
  | .iface _ d => uptoBulk d + 1
  | .map entries => uptoBulkEntries entries + 1
  | .held _ => 1
def uptoBulkAll {H : Type} : List (DataW H) → Nat
  | [] => 0
  | d :: r => uptoBulk d + uptoBulkAll r
def uptoBulkEntries {H : Type} : List (Lit × DataW H) → Nat
  | [] => 0
  | x :: r => uptoBulkEntry x + uptoBulkEntries r
def uptoBulkEntry {H : Type} : Lit × DataW H → Nat
  | (.string bytes, d) => bytes.length + uptoBulk d + 1
  | (_, d) => uptoBulk d + 1
 end
def uptoSmall : (H : Type) → List (DataW H) → Bool := fun _ ds => decide (uptoBulkAll ds ≤ 1048576)
def OpenSpec.upto (s : _root_.Go.ChangeSpec) : _root_.Go.OpenSpec := { _root_.Go.OpenSpec.ofChange s with cond := some uptoSmall }

/-- 'groovelaw14.ForbiddenGraph', WHERE WHAT IT READS IS OF BULK AT MOST 1048576: true; the input reads as it did. -/
def forbiddenGraphUptoRow : OpenClaim := { program := "ythelgembcfdhdaagreat", sum := "18ff6a1fdec1f2b423c1bef7c12475490807cf9157bbeec4b0b31a0f3fedf448", func := "groove/groovelaw14.ForbiddenGraph", spec := "forbiddenGraph", inPlace := ["internal/bytealg.IndexByteString", "internal/bytealg.abigen_runtime_cmpstring", "internal/bytealg.IndexString"], unfollowed := true, recurses := true, named := ["internal/bytealg.MaxLen"], apart := false, narrowed := true }
def ForbiddenGraphUptoSaid : Prop := forbiddenGraphUptoRow.holds Tryz.pinned (OpenSpec.upto forbiddenGraphSpec)

/-- 'groovelaw14.ForbiddenMore', WHERE WHAT IT READS IS OF BULK AT MOST 1048576: true; the input reads as it did. -/
def forbiddenMoreUptoRow : OpenClaim := { program := "ythelgembcfdhdaagreat", sum := "18ff6a1fdec1f2b423c1bef7c12475490807cf9157bbeec4b0b31a0f3fedf448", func := "groove/groovelaw14.ForbiddenMore", spec := "forbiddenMore", inPlace := ["internal/bytealg.IndexByteString", "internal/bytealg.abigen_runtime_cmpstring", "internal/bytealg.IndexString"], unfollowed := true, recurses := true, named := ["internal/bytealg.MaxLen"], apart := false, narrowed := true }
def ForbiddenMoreUptoSaid : Prop := forbiddenMoreUptoRow.holds Tryz.pinned (OpenSpec.upto forbiddenMoreSpec)

/-- 'groovelaw14.ForbiddenWords', WHERE WHAT IT READS IS OF BULK AT MOST 1048576: true; the input reads as it did. -/
def forbiddenWordsUptoRow : OpenClaim := { program := "ythelgembcfdhdaagreat", sum := "18ff6a1fdec1f2b423c1bef7c12475490807cf9157bbeec4b0b31a0f3fedf448", func := "groove/groovelaw14.ForbiddenWords", spec := "forbiddenWords", inPlace := ["internal/bytealg.IndexByteString", "internal/bytealg.abigen_runtime_cmpstring", "internal/bytealg.IndexString"], unfollowed := true, recurses := true, named := ["internal/bytealg.MaxLen"], apart := false, narrowed := true }
def ForbiddenWordsUptoSaid : Prop := forbiddenWordsUptoRow.holds Tryz.pinned (OpenSpec.upto forbiddenWordsSpec)

end Rows
end Go.Proofs.YthelgembcfdhdaaGreat
