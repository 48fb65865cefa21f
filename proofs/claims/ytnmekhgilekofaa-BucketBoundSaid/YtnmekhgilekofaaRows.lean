/-
  No cell of these rows narrows 'for every input' (looked for: loops, veiled, ifaces, maps, wideKeys, modest, calm, conditions, laid).
  DERIVED. THE GIVEN ROWS OF THIS SEAT. 5 by the template 'for every input the law returns true; each argument reads behind the call as it read before'; 0 by the template 'total and deterministic' (their statements: YtnmekhgilekofaaTotals.lean).
  GIVEN WITH THE SEED: the statements are not yours to turn. If you find one false, say at which input.
  Laid BY PROGRAM, IN A SANDBOX (cutbox-rows.mjs): the forced cells as the released guide's own fill.sh prints them over the translation 12b34c4951f0826b… (all of the seat's roots in one cut). By AI agents, Wed Nov 11 2026. No macro, syntax, notation, axiom, sorry.
-/
import Derived.Test.YtnmekhgilekofaaChecked
import GoSem.Claim
import GoSem.ClaimJoined
import GoSem.ClaimMapViews
import Derived.JoinedTies
import Derived.KernelRfl
namespace Go.Proofs.Ytnmekhgilekofaa
/- THE CELL 'sum', in the pinned program and in every row, IS THE sha256 OF THE DUMP (.gsa) THAT YtnmekhgilekofaaProg.lean LOADS. Nothing in Lean hashes anything: it is a label: what it is worth is what the hold of that sum in a sandbox is worth. -/
noncomputable def Try.pinned : Pinned := { name := "ytnmekhgilekofaa", sum := "12b34c4951f0826b2fcff09d491b1a77dd0f5c6bfe0cf9397a8357cb2dac538e", checked := Try.checked }
namespace Rows
def none {H : Type} : Left H := { results := [], args := [] }

/-- 'sounderlaw01.SatKnown': WHATEVER THE INPUT: true; the input reads as it did. -/
def satKnownSpec : ChangeSpec := { name := "satKnown", fn := fun _ => fun
  | [] => { results := [.lit (.bool true)], args := [] }
  | _ => none }
def satKnownRow : OpenClaim := { program := "ytnmekhgilekofaa", sum := "12b34c4951f0826b2fcff09d491b1a77dd0f5c6bfe0cf9397a8357cb2dac538e", func := "sounder/sounderlaw01.SatKnown", spec := "satKnown", named := ["math/bits.divideError", "math/bits.overflowError"], apart := false }
def SatKnownSaid : Prop := satKnownRow.holds Try.pinned (OpenSpec.ofChange satKnownSpec)

/-- ITS FALSE NEIGHBOUR: 'it returns false'. Refute it at one input. -/
def satKnownWrong : ChangeSpec := { name := "satKnown", fn := fun _ => fun
  | [] => { results := [.lit (.bool false)], args := [] }
  | _ => none }
def SatKnownWrongFalsely : Prop := satKnownRow.holds Try.pinned (OpenSpec.ofChange satKnownWrong)

/-- 'sounderlaw15.AmplKnown': WHATEVER THE INPUT: true; the input reads as it did. -/
def amplKnownSpec : ChangeSpec := { name := "amplKnown", fn := fun _ => fun
  | [] => { results := [.lit (.bool true)], args := [] }
  | _ => none }
def amplKnownRow : OpenClaim := { program := "ytnmekhgilekofaa", sum := "12b34c4951f0826b2fcff09d491b1a77dd0f5c6bfe0cf9397a8357cb2dac538e", func := "sounder/sounderlaw15.AmplKnown", spec := "amplKnown", unfollowed := true, recurses := true, named := ["math/bits.divideError", "math/bits.overflowError"], apart := false }
def AmplKnownSaid : Prop := amplKnownRow.holds Try.pinned (OpenSpec.ofChange amplKnownSpec)

/-- ITS FALSE NEIGHBOUR: 'it returns false'. Refute it at one input. -/
def amplKnownWrong : ChangeSpec := { name := "amplKnown", fn := fun _ => fun
  | [] => { results := [.lit (.bool false)], args := [] }
  | _ => none }
def AmplKnownWrongFalsely : Prop := amplKnownRow.holds Try.pinned (OpenSpec.ofChange amplKnownWrong)

/-- 'sounderlaw13.BucketBound': WHATEVER THE INPUT: true; the input reads as it did. -/
def bucketBoundSpec : ChangeSpec := { name := "bucketBound", fn := fun _ => fun
  | [d1, d2, d3] => { results := [.lit (.bool true)], args := [d1, d2, d3] }
  | _ => none }
def bucketBoundRow : OpenClaim := { program := "ytnmekhgilekofaa", sum := "12b34c4951f0826b2fcff09d491b1a77dd0f5c6bfe0cf9397a8357cb2dac538e", func := "sounder/sounderlaw13.BucketBound", spec := "bucketBound", inPlace := ["math/bits.Sub64", "math/bits.Add64"], unfollowed := true, recurses := true, named := ["math/bits.divideError", "math/bits.overflowError"], apart := false }
def BucketBoundSaid : Prop := bucketBoundRow.holds Try.pinned (OpenSpec.ofChange bucketBoundSpec)

/-- ITS FALSE NEIGHBOUR: 'it returns false'. Refute it at one input. -/
def bucketBoundWrong : ChangeSpec := { name := "bucketBound", fn := fun _ => fun
  | [d1, d2, d3] => { results := [.lit (.bool false)], args := [d1, d2, d3] }
  | _ => none }
def BucketBoundWrongFalsely : Prop := bucketBoundRow.holds Try.pinned (OpenSpec.ofChange bucketBoundWrong)

/-- 'sounderlaw13.BucketRates': WHATEVER THE INPUT: true; the input reads as it did. -/
def bucketRatesSpec : ChangeSpec := { name := "bucketRates", fn := fun _ => fun
  | [d1, d2, d3] => { results := [.lit (.bool true)], args := [d1, d2, d3] }
  | _ => none }
def bucketRatesRow : OpenClaim := { program := "ytnmekhgilekofaa", sum := "12b34c4951f0826b2fcff09d491b1a77dd0f5c6bfe0cf9397a8357cb2dac538e", func := "sounder/sounderlaw13.BucketRates", spec := "bucketRates", inPlace := ["math/bits.Sub64", "math/bits.Add64"], unfollowed := true, recurses := true, named := ["math/bits.divideError", "math/bits.overflowError"], apart := false }
def BucketRatesSaid : Prop := bucketRatesRow.holds Try.pinned (OpenSpec.ofChange bucketRatesSpec)

/-- ITS FALSE NEIGHBOUR: 'it returns false'. Refute it at one input. -/
def bucketRatesWrong : ChangeSpec := { name := "bucketRates", fn := fun _ => fun
  | [d1, d2, d3] => { results := [.lit (.bool false)], args := [d1, d2, d3] }
  | _ => none }
def BucketRatesWrongFalsely : Prop := bucketRatesRow.holds Try.pinned (OpenSpec.ofChange bucketRatesWrong)

/-- 'sounderlaw13.BucketKnown': WHATEVER THE INPUT: true; the input reads as it did. -/
def bucketKnownSpec : ChangeSpec := { name := "bucketKnown", fn := fun _ => fun
  | [] => { results := [.lit (.bool true)], args := [] }
  | _ => none }
def bucketKnownRow : OpenClaim := { program := "ytnmekhgilekofaa", sum := "12b34c4951f0826b2fcff09d491b1a77dd0f5c6bfe0cf9397a8357cb2dac538e", func := "sounder/sounderlaw13.BucketKnown", spec := "bucketKnown", inPlace := ["math/bits.Sub64", "math/bits.Add64"], unfollowed := true, recurses := true, named := ["math/bits.divideError", "math/bits.overflowError"], apart := false }
def BucketKnownSaid : Prop := bucketKnownRow.holds Try.pinned (OpenSpec.ofChange bucketKnownSpec)

/-- ITS FALSE NEIGHBOUR: 'it returns false'. Refute it at one input. -/
def bucketKnownWrong : ChangeSpec := { name := "bucketKnown", fn := fun _ => fun
  | [] => { results := [.lit (.bool false)], args := [] }
  | _ => none }
def BucketKnownWrongFalsely : Prop := bucketKnownRow.holds Try.pinned (OpenSpec.ofChange bucketKnownWrong)

/- THE SECOND FORM. 'bulk': how many values and letters a reading holds, each counted each time it is reached (what is shared counts as often as it is met; a slice's spare places count too). A statement '..UptoSaid' is the law's where the arguments, and the package variables that the reading takes, are together of bulk at most 1048576: NARROWER than '..Said'. Prove '..Said' where nothing that the law and all that it calls make is longer than what came in: it says more and counts as full. Else prove '..UptoSaid'. A law counts once. -/
mutual
def uptoBulk {H : Type} : DataW H → Nat
  | .lit (.string bytes) => bytes.length + 1
  | .lit _ => 1
  | .nil => 1
  | .ptr d => uptoBulk d + 1
  | .slice elems spare => uptoBulkAll elems + uptoBulkAll spare + 1
  | .agg parts => uptoBulkAll parts + 1
  | .iface _ d => uptoBulk d + 1
  | .map entries => uptoBulkEntries entries + 1
  | .held _ => 1
def uptoBulkAll {H : Type} : List (DataW H) → Nat
  | [] => 0
  | d :: r => uptoBulk d + uptoBulkAll r
def uptoBulkEntries {H : Type} : List (Lit × DataW H) → Nat
  | [] => 0
  | x :: r => uptoBulkEntry x + uptoBulkEntries r
def uptoBulkEntry {H : Type} : Lit × DataW H → Nat
  | (.string bytes, d) => bytes.length + uptoBulk d + 1
  | (_, d) => uptoBulk d + 1
 end
def uptoSmall : (H : Type) → List (DataW H) → Bool := fun _ ds => decide (uptoBulkAll ds ≤ 1048576)
def OpenSpec.upto (s : _root_.Go.ChangeSpec) : _root_.Go.OpenSpec := { _root_.Go.OpenSpec.ofChange s with cond := some uptoSmall }

/-- 'sounderlaw01.SatKnown', WHERE WHAT IT READS IS OF BULK AT MOST 1048576: true; the input reads as it did. -/
def satKnownUptoRow : OpenClaim := { program := "ytnmekhgilekofaa", sum := "12b34c4951f0826b2fcff09d491b1a77dd0f5c6bfe0cf9397a8357cb2dac538e", func := "sounder/sounderlaw01.SatKnown", spec := "satKnown", named := ["math/bits.divideError", "math/bits.overflowError"], apart := false, narrowed := true }
def SatKnownUptoSaid : Prop := satKnownUptoRow.holds Try.pinned (OpenSpec.upto satKnownSpec)

/-- 'sounderlaw15.AmplKnown', WHERE WHAT IT READS IS OF BULK AT MOST 1048576: true; the input reads as it did. -/
def amplKnownUptoRow : OpenClaim := { program := "ytnmekhgilekofaa", sum := "12b34c4951f0826b2fcff09d491b1a77dd0f5c6bfe0cf9397a8357cb2dac538e", func := "sounder/sounderlaw15.AmplKnown", spec := "amplKnown", unfollowed := true, recurses := true, named := ["math/bits.divideError", "math/bits.overflowError"], apart := false, narrowed := true }
def AmplKnownUptoSaid : Prop := amplKnownUptoRow.holds Try.pinned (OpenSpec.upto amplKnownSpec)

/-- 'sounderlaw13.BucketBound', WHERE WHAT IT READS IS OF BULK AT MOST 1048576: true; the input reads as it did. -/
def bucketBoundUptoRow : OpenClaim := { program := "ytnmekhgilekofaa", sum := "12b34c4951f0826b2fcff09d491b1a77dd0f5c6bfe0cf9397a8357cb2dac538e", func := "sounder/sounderlaw13.BucketBound", spec := "bucketBound", inPlace := ["math/bits.Sub64", "math/bits.Add64"], unfollowed := true, recurses := true, named := ["math/bits.divideError", "math/bits.overflowError"], apart := false, narrowed := true }
def BucketBoundUptoSaid : Prop := bucketBoundUptoRow.holds Try.pinned (OpenSpec.upto bucketBoundSpec)

/-- 'sounderlaw13.BucketRates', WHERE WHAT IT READS IS OF BULK AT MOST 1048576: true; the input reads as it did. -/
def bucketRatesUptoRow : OpenClaim := { program := "ytnmekhgilekofaa", sum := "12b34c4951f0826b2fcff09d491b1a77dd0f5c6bfe0cf9397a8357cb2dac538e", func := "sounder/sounderlaw13.BucketRates", spec := "bucketRates", inPlace := ["math/bits.Sub64", "math/bits.Add64"], unfollowed := true, recurses := true, named := ["math/bits.divideError", "math/bits.overflowError"], apart := false, narrowed := true }
def BucketRatesUptoSaid : Prop := bucketRatesUptoRow.holds Try.pinned (OpenSpec.upto bucketRatesSpec)

/-- 'sounderlaw13.BucketKnown', WHERE WHAT IT READS IS OF BULK AT MOST 1048576: true; the input reads as it did. -/
def bucketKnownUptoRow : OpenClaim := { program := "ytnmekhgilekofaa", sum := "12b34c4951f0826b2fcff09d491b1a77dd0f5c6bfe0cf9397a8357cb2dac538e", func := "sounder/sounderlaw13.BucketKnown", spec := "bucketKnown", inPlace := ["math/bits.Sub64", "math/bits.Add64"], unfollowed := true, recurses := true, named := ["math/bits.divideError", "math/bits.overflowError"], apart := false, narrowed := true }
def BucketKnownUptoSaid : Prop := bucketKnownUptoRow.holds Try.pinned (OpenSpec.upto bucketKnownSpec)

end Rows
end Go.Proofs.Ytnmekhgilekofaa
