/-
  No cell of these rows narrows 'for every input' (looked for: loops, veiled, ifaces, maps, wideKeys, modest, calm, conditions, laid).
  DERIVED. THE GIVEN ROWS OF THIS SEAT. 5 by the template 'for every input the law returns true; each argument reads behind the call as it read before'; 0 by the template 'total and deterministic' (their statements: YtccdocnaijdcnaaTotals.lean).
  GIVEN WITH THE SEED: the statements are not yours to turn. If you find one false, say at which input.
  Laid BY PROGRAM, IN A SANDBOX (cutbox-rows.mjs): the forced cells as the released guide's own fill.sh prints them over the translation 8db6e0d0f387ac38… (all of the seat's roots in one cut). By AI agents, Wed Nov 11 2026. No macro, syntax, notation, axiom, sorry.
-/
import Derived.Test.YtccdocnaijdcnaaChecked
import GoSem.Claim
import GoSem.ClaimJoined
import GoSem.ClaimMapViews
import Derived.JoinedTies
import Derived.KernelRfl
namespace Go.Proofs.Ytccdocnaijdcnaa
/- THE CELL 'sum', in the pinned program and in every row, IS THE sha256 OF THE DUMP (.gsa) THAT YtccdocnaijdcnaaProg.lean LOADS. Nothing in Lean hashes anything: it is a label: what it is worth is what the hold of that sum in a sandbox is worth. -/
noncomputable def Try.pinned : Pinned := { name := "ytccdocnaijdcnaa", sum := "8db6e0d0f387ac38500d20268ed09ceeb6a9a54394e4611ff367fc0a33a32bd2", checked := Try.checked }
namespace Rows
def none {H : Type} : Left H := { results := [], args := [] }

/-- 'groovelaw18.ChargePolarities': WHATEVER THE INPUT: true; the input reads as it did. -/
def chargePolaritiesSpec : ChangeSpec := { name := "chargePolarities", fn := fun _ => fun
  | [d1, d2] => { results := [.lit (.bool true)], args := [d1, d2] }
  | _ => none }
def chargePolaritiesRow : OpenClaim := { program := "ytccdocnaijdcnaa", sum := "8db6e0d0f387ac38500d20268ed09ceeb6a9a54394e4611ff367fc0a33a32bd2", func := "groove/groovelaw18.ChargePolarities", spec := "chargePolarities", inPlace := ["internal/bytealg.IndexByteString"], unfollowed := true, recurses := true, apart := false }
def ChargePolaritiesSaid : Prop := chargePolaritiesRow.holds Try.pinned (OpenSpec.ofChange chargePolaritiesSpec)

/-- ITS FALSE NEIGHBOUR: 'it returns false'. Refute it at one input. -/
def chargePolaritiesWrong : ChangeSpec := { name := "chargePolarities", fn := fun _ => fun
  | [d1, d2] => { results := [.lit (.bool false)], args := [d1, d2] }
  | _ => none }
def ChargePolaritiesWrongFalsely : Prop := chargePolaritiesRow.holds Try.pinned (OpenSpec.ofChange chargePolaritiesWrong)

/-- 'groovelaw18.ChargeWords': WHATEVER THE INPUT: true; the input reads as it did. -/
def chargeWordsSpec : ChangeSpec := { name := "chargeWords", fn := fun _ => fun
  | [d1, d2, d3] => { results := [.lit (.bool true)], args := [d1, d2, d3] }
  | _ => none }
def chargeWordsRow : OpenClaim := { program := "ytccdocnaijdcnaa", sum := "8db6e0d0f387ac38500d20268ed09ceeb6a9a54394e4611ff367fc0a33a32bd2", func := "groove/groovelaw18.ChargeWords", spec := "chargeWords", inPlace := ["internal/bytealg.IndexByteString"], unfollowed := true, recurses := true, apart := false }
def ChargeWordsSaid : Prop := chargeWordsRow.holds Try.pinned (OpenSpec.ofChange chargeWordsSpec)

/-- ITS FALSE NEIGHBOUR: 'it returns false'. Refute it at one input. -/
def chargeWordsWrong : ChangeSpec := { name := "chargeWords", fn := fun _ => fun
  | [d1, d2, d3] => { results := [.lit (.bool false)], args := [d1, d2, d3] }
  | _ => none }
def ChargeWordsWrongFalsely : Prop := chargeWordsRow.holds Try.pinned (OpenSpec.ofChange chargeWordsWrong)

/-- 'groovelaw18.ChargePolarity': WHATEVER THE INPUT: true; the input reads as it did. -/
def chargePolaritySpec : ChangeSpec := { name := "chargePolarity", fn := fun _ => fun
  | [d1, d2] => { results := [.lit (.bool true)], args := [d1, d2] }
  | _ => none }
def chargePolarityRow : OpenClaim := { program := "ytccdocnaijdcnaa", sum := "8db6e0d0f387ac38500d20268ed09ceeb6a9a54394e4611ff367fc0a33a32bd2", func := "groove/groovelaw18.ChargePolarity", spec := "chargePolarity", inPlace := ["internal/bytealg.IndexByteString", "internal/bytealg.CountString", "internal/bytealg.IndexString"], unfollowed := true, recurses := true, named := ["internal/bytealg.MaxLen"], apart := false }
def ChargePolaritySaid : Prop := chargePolarityRow.holds Try.pinned (OpenSpec.ofChange chargePolaritySpec)

/-- ITS FALSE NEIGHBOUR: 'it returns false'. Refute it at one input. -/
def chargePolarityWrong : ChangeSpec := { name := "chargePolarity", fn := fun _ => fun
  | [d1, d2] => { results := [.lit (.bool false)], args := [d1, d2] }
  | _ => none }
def ChargePolarityWrongFalsely : Prop := chargePolarityRow.holds Try.pinned (OpenSpec.ofChange chargePolarityWrong)

/-- 'groovelaw18.ChargeSpectrum': WHATEVER THE INPUT: true; the input reads as it did. -/
def chargeSpectrumSpec : ChangeSpec := { name := "chargeSpectrum", fn := fun _ => fun
  | [d1, d2] => { results := [.lit (.bool true)], args := [d1, d2] }
  | _ => none }
def chargeSpectrumRow : OpenClaim := { program := "ytccdocnaijdcnaa", sum := "8db6e0d0f387ac38500d20268ed09ceeb6a9a54394e4611ff367fc0a33a32bd2", func := "groove/groovelaw18.ChargeSpectrum", spec := "chargeSpectrum", inPlace := ["internal/bytealg.IndexByteString", "internal/bytealg.CountString", "internal/bytealg.IndexString"], unfollowed := true, recurses := true, named := ["internal/bytealg.MaxLen"], apart := false }
def ChargeSpectrumSaid : Prop := chargeSpectrumRow.holds Try.pinned (OpenSpec.ofChange chargeSpectrumSpec)

/-- ITS FALSE NEIGHBOUR: 'it returns false'. Refute it at one input. -/
def chargeSpectrumWrong : ChangeSpec := { name := "chargeSpectrum", fn := fun _ => fun
  | [d1, d2] => { results := [.lit (.bool false)], args := [d1, d2] }
  | _ => none }
def ChargeSpectrumWrongFalsely : Prop := chargeSpectrumRow.holds Try.pinned (OpenSpec.ofChange chargeSpectrumWrong)

/-- 'groovelaw18.ChargeBalance': WHATEVER THE INPUT: true; the input reads as it did. -/
def chargeBalanceSpec : ChangeSpec := { name := "chargeBalance", fn := fun _ => fun
  | [d] => { results := [.lit (.bool true)], args := [d] }
  | _ => none }
def chargeBalanceRow : OpenClaim := { program := "ytccdocnaijdcnaa", sum := "8db6e0d0f387ac38500d20268ed09ceeb6a9a54394e4611ff367fc0a33a32bd2", func := "groove/groovelaw18.ChargeBalance", spec := "chargeBalance", inPlace := ["internal/abi.NoEscape", "internal/bytealg.MakeNoZero", "internal/bytealg.IndexByteString", "internal/bytealg.CountString", "internal/bytealg.IndexString"], unfollowed := true, recurses := true, named := ["internal/bytealg.MaxLen"], apart := false }
def ChargeBalanceSaid : Prop := chargeBalanceRow.holds Try.pinned (OpenSpec.ofChange chargeBalanceSpec)

/-- ITS FALSE NEIGHBOUR: 'it returns false'. Refute it at one input. -/
def chargeBalanceWrong : ChangeSpec := { name := "chargeBalance", fn := fun _ => fun
  | [d] => { results := [.lit (.bool false)], args := [d] }
  | _ => none }
def ChargeBalanceWrongFalsely : Prop := chargeBalanceRow.holds Try.pinned (OpenSpec.ofChange chargeBalanceWrong)

/- THE SECOND FORM. 'bulk': how many values and letters a reading holds, each counted each time it is reached (what is shared counts as often as it is met; a slice's spare places count too). A statement '..UptoSaid' is the law's where the arguments, and the package variables that the reading takes, are together of bulk at most 1048576: NARROWER than '..Said'. Prove '..Said' where nothing that the law and all that it calls make is longer than what came in: it says more and counts as full. Else prove '..UptoSaid'. A law counts once. -/
mutual
def uptoBulk {H : Type} : DataW H → Nat
  | .lit (.string bytes) => bytes.length + 1
  | .lit _ => 1
  | .nil => 1
  | .ptr d => uptoBulk d + 1
  | .slice elems spare => uptoBulkAll elems + uptoBulkAll spare + 1
  | .agg parts => uptoBulkAll parts + 1
  | .iface _ d => uptoBulk d + 1
  | .map entries => uptoBulkEntries entries + 1
  | .held _ => 1
def uptoBulkAll {H : Type} : List (DataW H) → Nat
  | [] => 0
  | d :: r => uptoBulk d + uptoBulkAll r
def uptoBulkEntries {H : Type} : List (Lit × DataW H) → Nat
  | [] => 0
  | x :: r => uptoBulkEntry x + uptoBulkEntries r
def uptoBulkEntry {H : Type} : Lit × DataW H → Nat
  | (.string bytes, d) => bytes.length + uptoBulk d + 1
  | (_, d) => uptoBulk d + 1
 end
def uptoSmall : (H : Type) → List (DataW H) → Bool := fun _ ds => decide (uptoBulkAll ds ≤ 1048576)
def OpenSpec.upto (s : _root_.Go.ChangeSpec) : _root_.Go.OpenSpec := { _root_.Go.OpenSpec.ofChange s with cond := some uptoSmall }

/-- 'groovelaw18.ChargePolarities', WHERE WHAT IT READS IS OF BULK AT MOST 1048576: true; the input reads as it did. -/
def chargePolaritiesUptoRow : OpenClaim := { program := "ytccdocnaijdcnaa", sum := "8db6e0d0f387ac38500d20268ed09ceeb6a9a54394e4611ff367fc0a33a32bd2", func := "groove/groovelaw18.ChargePolarities", spec := "chargePolarities", inPlace := ["internal/bytealg.IndexByteString"], unfollowed := true, recurses := true, apart := false, narrowed := true }
def ChargePolaritiesUptoSaid : Prop := chargePolaritiesUptoRow.holds Try.pinned (OpenSpec.upto chargePolaritiesSpec)

/-- 'groovelaw18.ChargeWords', WHERE WHAT IT READS IS OF BULK AT MOST 1048576: true; the input reads as it did. -/
def chargeWordsUptoRow : OpenClaim := { program := "ytccdocnaijdcnaa", sum := "8db6e0d0f387ac38500d20268ed09ceeb6a9a54394e4611ff367fc0a33a32bd2", func := "groove/groovelaw18.ChargeWords", spec := "chargeWords", inPlace := ["internal/bytealg.IndexByteString"], unfollowed := true, recurses := true, apart := false, narrowed := true }
def ChargeWordsUptoSaid : Prop := chargeWordsUptoRow.holds Try.pinned (OpenSpec.upto chargeWordsSpec)

/-- 'groovelaw18.ChargePolarity', WHERE WHAT IT READS IS OF BULK AT MOST 1048576: true; the input reads as it did. -/
def chargePolarityUptoRow : OpenClaim := { program := "ytccdocnaijdcnaa", sum := "8db6e0d0f387ac38500d20268ed09ceeb6a9a54394e4611ff367fc0a33a32bd2", func := "groove/groovelaw18.ChargePolarity", spec := "chargePolarity", inPlace := ["internal/bytealg.IndexByteString", "internal/bytealg.CountString", "internal/bytealg.IndexString"], unfollowed := true, recurses := true, named := ["internal/bytealg.MaxLen"], apart := false, narrowed := true }
def ChargePolarityUptoSaid : Prop := chargePolarityUptoRow.holds Try.pinned (OpenSpec.upto chargePolaritySpec)

/-- 'groovelaw18.ChargeSpectrum', WHERE WHAT IT READS IS OF BULK AT MOST 1048576: true; the input reads as it did. -/
def chargeSpectrumUptoRow : OpenClaim := { program := "ytccdocnaijdcnaa", sum := "8db6e0d0f387ac38500d20268ed09ceeb6a9a54394e4611ff367fc0a33a32bd2", func := "groove/groovelaw18.ChargeSpectrum", spec := "chargeSpectrum", inPlace := ["internal/bytealg.IndexByteString", "internal/bytealg.CountString", "internal/bytealg.IndexString"], unfollowed := true, recurses := true, named := ["internal/bytealg.MaxLen"], apart := false, narrowed := true }
def ChargeSpectrumUptoSaid : Prop := chargeSpectrumUptoRow.holds Try.pinned (OpenSpec.upto chargeSpectrumSpec)

/-- 'groovelaw18.ChargeBalance', WHERE WHAT IT READS IS OF BULK AT MOST 1048576: true; the input reads as it did. -/
def chargeBalanceUptoRow : OpenClaim := { program := "ytccdocnaijdcnaa", sum := "8db6e0d0f387ac38500d20268ed09ceeb6a9a54394e4611ff367fc0a33a32bd2", func := "groove/groovelaw18.ChargeBalance", spec := "chargeBalance", inPlace := ["internal/abi.NoEscape", "internal/bytealg.MakeNoZero", "internal/bytealg.IndexByteString", "internal/bytealg.CountString", "internal/bytealg.IndexString"], unfollowed := true, recurses := true, named := ["internal/bytealg.MaxLen"], apart := false, narrowed := true }
def ChargeBalanceUptoSaid : Prop := chargeBalanceUptoRow.holds Try.pinned (OpenSpec.upto chargeBalanceSpec)

end Rows
end Go.Proofs.Ytccdocnaijdcnaa
