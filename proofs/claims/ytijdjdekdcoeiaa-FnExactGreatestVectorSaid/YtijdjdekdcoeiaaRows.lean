/-
  No cell of these rows narrows 'for every input' (looked for: loops, veiled, ifaces, maps, wideKeys, modest, calm, conditions, laid).
  DERIVED. THE GIVEN ROWS OF THIS SEAT. 10 by the template 'for every input the law returns true; each argument reads behind the call as it read before'; 0 by the template 'total and deterministic' (their statements: YtijdjdekdcoeiaaTotals.lean).
  GIVEN WITH THE SEED: the statements are not yours to turn. If you find one false, say at which input.
  Laid BY PROGRAM, IN A SANDBOX (cutbox-rows.mjs): the forced cells as the released guide's own fill.sh prints them over the translation 1fe693810ad6de8a… (all of the seat's roots in one cut). By AI agents, Wed Nov 11 2026. No macro, syntax, notation, axiom, sorry.
-/
import Derived.Test.YtijdjdekdcoeiaaChecked
import GoSem.Claim
import GoSem.ClaimJoined
import GoSem.ClaimMapViews
import Derived.JoinedTies
import Derived.KernelRfl
namespace Go.Proofs.Ytijdjdekdcoeiaa
/- THE CELL 'sum', in the pinned program and in every row, IS THE sha256 OF THE DUMP (.gsa) THAT YtijdjdekdcoeiaaProg.lean LOADS. Nothing in Lean hashes anything: it is a label: what it is worth is what the hold of that sum in a sandbox is worth. -/
noncomputable def Try.pinned : Pinned := { name := "ytijdjdekdcoeiaa", sum := "1fe693810ad6de8aa50144d37a763e7bc29ed2e6ce49400d7e048b4ae78de770", checked := Try.checked }
namespace Rows
def none {H : Type} : Left H := { results := [], args := [] }

/-- 'laws.FnExactEqualFunctions': WHATEVER THE INPUT: true; the input reads as it did. -/
def fnExactEqualFunctionsSpec : ChangeSpec := { name := "fnExactEqualFunctions", fn := fun _ => fun
  | [d1, d2] => { results := [.lit (.bool true)], args := [d1, d2] }
  | _ => none }
def fnExactEqualFunctionsRow : OpenClaim := { program := "ytijdjdekdcoeiaa", sum := "1fe693810ad6de8aa50144d37a763e7bc29ed2e6ce49400d7e048b4ae78de770", func := "loop.example/g03405/laws.FnExactEqualFunctions", spec := "fnExactEqualFunctions", apart := false }
def FnExactEqualFunctionsSaid : Prop := fnExactEqualFunctionsRow.holds Try.pinned (OpenSpec.ofChange fnExactEqualFunctionsSpec)

/-- ITS FALSE NEIGHBOUR: 'it returns false'. Refute it at one input. -/
def fnExactEqualFunctionsWrong : ChangeSpec := { name := "fnExactEqualFunctions", fn := fun _ => fun
  | [d1, d2] => { results := [.lit (.bool false)], args := [d1, d2] }
  | _ => none }
def FnExactEqualFunctionsWrongFalsely : Prop := fnExactEqualFunctionsRow.holds Try.pinned (OpenSpec.ofChange fnExactEqualFunctionsWrong)

/-- 'laws.FnExactIsFunction': WHATEVER THE INPUT: true; the input reads as it did. -/
def fnExactIsFunctionSpec : ChangeSpec := { name := "fnExactIsFunction", fn := fun _ => fun
  | [d] => { results := [.lit (.bool true)], args := [d] }
  | _ => none }
def fnExactIsFunctionRow : OpenClaim := { program := "ytijdjdekdcoeiaa", sum := "1fe693810ad6de8aa50144d37a763e7bc29ed2e6ce49400d7e048b4ae78de770", func := "loop.example/g03405/laws.FnExactIsFunction", spec := "fnExactIsFunction", apart := false }
def FnExactIsFunctionSaid : Prop := fnExactIsFunctionRow.holds Try.pinned (OpenSpec.ofChange fnExactIsFunctionSpec)

/-- ITS FALSE NEIGHBOUR: 'it returns false'. Refute it at one input. -/
def fnExactIsFunctionWrong : ChangeSpec := { name := "fnExactIsFunction", fn := fun _ => fun
  | [d] => { results := [.lit (.bool false)], args := [d] }
  | _ => none }
def FnExactIsFunctionWrongFalsely : Prop := fnExactIsFunctionRow.holds Try.pinned (OpenSpec.ofChange fnExactIsFunctionWrong)

/-- 'laws.FnExactGreatestVector': WHATEVER THE INPUT: true; the input reads as it did. -/
def fnExactGreatestVectorSpec : ChangeSpec := { name := "fnExactGreatestVector", fn := fun _ => fun
  | [d1, d2] => { results := [.lit (.bool true)], args := [d1, d2] }
  | _ => none }
def fnExactGreatestVectorRow : OpenClaim := { program := "ytijdjdekdcoeiaa", sum := "1fe693810ad6de8aa50144d37a763e7bc29ed2e6ce49400d7e048b4ae78de770", func := "loop.example/g03405/laws.FnExactGreatestVector", spec := "fnExactGreatestVector", unfollowed := true, recurses := true, apart := false }
def FnExactGreatestVectorSaid : Prop := fnExactGreatestVectorRow.holds Try.pinned (OpenSpec.ofChange fnExactGreatestVectorSpec)

/-- ITS FALSE NEIGHBOUR: 'it returns false'. Refute it at one input. -/
def fnExactGreatestVectorWrong : ChangeSpec := { name := "fnExactGreatestVector", fn := fun _ => fun
  | [d1, d2] => { results := [.lit (.bool false)], args := [d1, d2] }
  | _ => none }
def FnExactGreatestVectorWrongFalsely : Prop := fnExactGreatestVectorRow.holds Try.pinned (OpenSpec.ofChange fnExactGreatestVectorWrong)

/-- 'laws.FnExactIsGrounded': WHATEVER THE INPUT: true; the input reads as it did. -/
def fnExactIsGroundedSpec : ChangeSpec := { name := "fnExactIsGrounded", fn := fun _ => fun
  | [d] => { results := [.lit (.bool true)], args := [d] }
  | _ => none }
def fnExactIsGroundedRow : OpenClaim := { program := "ytijdjdekdcoeiaa", sum := "1fe693810ad6de8aa50144d37a763e7bc29ed2e6ce49400d7e048b4ae78de770", func := "loop.example/g03405/laws.FnExactIsGrounded", spec := "fnExactIsGrounded", apart := false }
def FnExactIsGroundedSaid : Prop := fnExactIsGroundedRow.holds Try.pinned (OpenSpec.ofChange fnExactIsGroundedSpec)

/-- ITS FALSE NEIGHBOUR: 'it returns false'. Refute it at one input. -/
def fnExactIsGroundedWrong : ChangeSpec := { name := "fnExactIsGrounded", fn := fun _ => fun
  | [d] => { results := [.lit (.bool false)], args := [d] }
  | _ => none }
def FnExactIsGroundedWrongFalsely : Prop := fnExactIsGroundedRow.holds Try.pinned (OpenSpec.ofChange fnExactIsGroundedWrong)

/-- 'laws.FnExactValueOf': WHATEVER THE INPUT: true; the input reads as it did. -/
def fnExactValueOfSpec : ChangeSpec := { name := "fnExactValueOf", fn := fun _ => fun
  | [d1, d2] => { results := [.lit (.bool true)], args := [d1, d2] }
  | _ => none }
def fnExactValueOfRow : OpenClaim := { program := "ytijdjdekdcoeiaa", sum := "1fe693810ad6de8aa50144d37a763e7bc29ed2e6ce49400d7e048b4ae78de770", func := "loop.example/g03405/laws.FnExactValueOf", spec := "fnExactValueOf", apart := false }
def FnExactValueOfSaid : Prop := fnExactValueOfRow.holds Try.pinned (OpenSpec.ofChange fnExactValueOfSpec)

/-- ITS FALSE NEIGHBOUR: 'it returns false'. Refute it at one input. -/
def fnExactValueOfWrong : ChangeSpec := { name := "fnExactValueOf", fn := fun _ => fun
  | [d1, d2] => { results := [.lit (.bool false)], args := [d1, d2] }
  | _ => none }
def FnExactValueOfWrongFalsely : Prop := fnExactValueOfRow.holds Try.pinned (OpenSpec.ofChange fnExactValueOfWrong)

/-- 'laws.FnExactGainOf': WHATEVER THE INPUT: true; the input reads as it did. -/
def fnExactGainOfSpec : ChangeSpec := { name := "fnExactGainOf", fn := fun _ => fun
  | [d1, d2, d3] => { results := [.lit (.bool true)], args := [d1, d2, d3] }
  | _ => none }
def fnExactGainOfRow : OpenClaim := { program := "ytijdjdekdcoeiaa", sum := "1fe693810ad6de8aa50144d37a763e7bc29ed2e6ce49400d7e048b4ae78de770", func := "loop.example/g03405/laws.FnExactGainOf", spec := "fnExactGainOf", apart := false }
def FnExactGainOfSaid : Prop := fnExactGainOfRow.holds Try.pinned (OpenSpec.ofChange fnExactGainOfSpec)

/-- ITS FALSE NEIGHBOUR: 'it returns false'. Refute it at one input. -/
def fnExactGainOfWrong : ChangeSpec := { name := "fnExactGainOf", fn := fun _ => fun
  | [d1, d2, d3] => { results := [.lit (.bool false)], args := [d1, d2, d3] }
  | _ => none }
def FnExactGainOfWrongFalsely : Prop := fnExactGainOfRow.holds Try.pinned (OpenSpec.ofChange fnExactGainOfWrong)

/-- 'laws.FnExactIsIncreasing': WHATEVER THE INPUT: true; the input reads as it did. -/
def fnExactIsIncreasingSpec : ChangeSpec := { name := "fnExactIsIncreasing", fn := fun _ => fun
  | [d] => { results := [.lit (.bool true)], args := [d] }
  | _ => none }
def fnExactIsIncreasingRow : OpenClaim := { program := "ytijdjdekdcoeiaa", sum := "1fe693810ad6de8aa50144d37a763e7bc29ed2e6ce49400d7e048b4ae78de770", func := "loop.example/g03405/laws.FnExactIsIncreasing", spec := "fnExactIsIncreasing", apart := false }
def FnExactIsIncreasingSaid : Prop := fnExactIsIncreasingRow.holds Try.pinned (OpenSpec.ofChange fnExactIsIncreasingSpec)

/-- ITS FALSE NEIGHBOUR: 'it returns false'. Refute it at one input. -/
def fnExactIsIncreasingWrong : ChangeSpec := { name := "fnExactIsIncreasing", fn := fun _ => fun
  | [d] => { results := [.lit (.bool false)], args := [d] }
  | _ => none }
def FnExactIsIncreasingWrongFalsely : Prop := fnExactIsIncreasingRow.holds Try.pinned (OpenSpec.ofChange fnExactIsIncreasingWrong)

/-- 'laws.FnExactSplitOf': WHATEVER THE INPUT: true; the input reads as it did. -/
def fnExactSplitOfSpec : ChangeSpec := { name := "fnExactSplitOf", fn := fun _ => fun
  | [d1, d2, d3] => { results := [.lit (.bool true)], args := [d1, d2, d3] }
  | _ => none }
def fnExactSplitOfRow : OpenClaim := { program := "ytijdjdekdcoeiaa", sum := "1fe693810ad6de8aa50144d37a763e7bc29ed2e6ce49400d7e048b4ae78de770", func := "loop.example/g03405/laws.FnExactSplitOf", spec := "fnExactSplitOf", apart := false }
def FnExactSplitOfSaid : Prop := fnExactSplitOfRow.holds Try.pinned (OpenSpec.ofChange fnExactSplitOfSpec)

/-- ITS FALSE NEIGHBOUR: 'it returns false'. Refute it at one input. -/
def fnExactSplitOfWrong : ChangeSpec := { name := "fnExactSplitOf", fn := fun _ => fun
  | [d1, d2, d3] => { results := [.lit (.bool false)], args := [d1, d2, d3] }
  | _ => none }
def FnExactSplitOfWrongFalsely : Prop := fnExactSplitOfRow.holds Try.pinned (OpenSpec.ofChange fnExactSplitOfWrong)

/-- 'laws.FnExactIsSubmodular': WHATEVER THE INPUT: true; the input reads as it did. -/
def fnExactIsSubmodularSpec : ChangeSpec := { name := "fnExactIsSubmodular", fn := fun _ => fun
  | [d] => { results := [.lit (.bool true)], args := [d] }
  | _ => none }
def fnExactIsSubmodularRow : OpenClaim := { program := "ytijdjdekdcoeiaa", sum := "1fe693810ad6de8aa50144d37a763e7bc29ed2e6ce49400d7e048b4ae78de770", func := "loop.example/g03405/laws.FnExactIsSubmodular", spec := "fnExactIsSubmodular", unfollowed := true, recurses := true, apart := false }
def FnExactIsSubmodularSaid : Prop := fnExactIsSubmodularRow.holds Try.pinned (OpenSpec.ofChange fnExactIsSubmodularSpec)

/-- ITS FALSE NEIGHBOUR: 'it returns false'. Refute it at one input. -/
def fnExactIsSubmodularWrong : ChangeSpec := { name := "fnExactIsSubmodular", fn := fun _ => fun
  | [d] => { results := [.lit (.bool false)], args := [d] }
  | _ => none }
def FnExactIsSubmodularWrongFalsely : Prop := fnExactIsSubmodularRow.holds Try.pinned (OpenSpec.ofChange fnExactIsSubmodularWrong)

/-- 'laws.FnExactTruncateFunction': WHATEVER THE INPUT: true; the input reads as it did. -/
def fnExactTruncateFunctionSpec : ChangeSpec := { name := "fnExactTruncateFunction", fn := fun _ => fun
  | [d1, d2] => { results := [.lit (.bool true)], args := [d1, d2] }
  | _ => none }
def fnExactTruncateFunctionRow : OpenClaim := { program := "ytijdjdekdcoeiaa", sum := "1fe693810ad6de8aa50144d37a763e7bc29ed2e6ce49400d7e048b4ae78de770", func := "loop.example/g03405/laws.FnExactTruncateFunction", spec := "fnExactTruncateFunction", unfollowed := true, recurses := true, apart := false }
def FnExactTruncateFunctionSaid : Prop := fnExactTruncateFunctionRow.holds Try.pinned (OpenSpec.ofChange fnExactTruncateFunctionSpec)

/-- ITS FALSE NEIGHBOUR: 'it returns false'. Refute it at one input. -/
def fnExactTruncateFunctionWrong : ChangeSpec := { name := "fnExactTruncateFunction", fn := fun _ => fun
  | [d1, d2] => { results := [.lit (.bool false)], args := [d1, d2] }
  | _ => none }
def FnExactTruncateFunctionWrongFalsely : Prop := fnExactTruncateFunctionRow.holds Try.pinned (OpenSpec.ofChange fnExactTruncateFunctionWrong)

/- THE SECOND FORM. 'bulk': how many values and letters a reading holds, each counted each time it is reached (what is shared counts as often as it is met; a slice's spare places count too). A statement '..UptoSaid' is the law's where the arguments, and the package variables that the reading takes, are together of bulk at most 1048576: NARROWER than '..Said'. Prove '..Said' where nothing that the law and all that it calls make is longer than what came in: it says more and counts as full. Else prove '..UptoSaid'. A law counts once. -/
mutual
def uptoBulk {H : Type} : DataW H → Nat
  | .lit (.string bytes) => bytes.length + 1
  | .lit _ => 1
  | .nil => 1
  | .ptr d => uptoBulk d + 1
  | .slice elems spare => uptoBulkAll elems + uptoBulkAll spare + 1
  | .agg parts => uptoBulkAll parts + 1
  | .iface _ d => uptoBulk d + 1
  | .map entries => uptoBulkEntries entries + 1
  | .held _ => 1
def uptoBulkAll {H : Type} : List (DataW H) → Nat
  | [] => 0
  | d :: r => uptoBulk d + uptoBulkAll r
def uptoBulkEntries {H : Type} : List (Lit × DataW H) → Nat
  | [] => 0
  | x :: r => uptoBulkEntry x + uptoBulkEntries r
def uptoBulkEntry {H : Type} : Lit × DataW H → Nat
  | (.string bytes, d) => bytes.length + uptoBulk d + 1
  | (_, d) => uptoBulk d + 1
 end
def uptoSmall : (H : Type) → List (DataW H) → Bool := fun _ ds => decide (uptoBulkAll ds ≤ 1048576)
def OpenSpec.upto (s : _root_.Go.ChangeSpec) : _root_.Go.OpenSpec := { _root_.Go.OpenSpec.ofChange s with cond := some uptoSmall }

/-- 'laws.FnExactEqualFunctions', WHERE WHAT IT READS IS OF BULK AT MOST 1048576: true; the input reads as it did. -/
def fnExactEqualFunctionsUptoRow : OpenClaim := { program := "ytijdjdekdcoeiaa", sum := "1fe693810ad6de8aa50144d37a763e7bc29ed2e6ce49400d7e048b4ae78de770", func := "loop.example/g03405/laws.FnExactEqualFunctions", spec := "fnExactEqualFunctions", apart := false, narrowed := true }
def FnExactEqualFunctionsUptoSaid : Prop := fnExactEqualFunctionsUptoRow.holds Try.pinned (OpenSpec.upto fnExactEqualFunctionsSpec)

/-- 'laws.FnExactIsFunction', WHERE WHAT IT READS IS OF BULK AT MOST 1048576: true; the input reads as it did. -/
def fnExactIsFunctionUptoRow : OpenClaim := { program := "ytijdjdekdcoeiaa", sum := "1fe693810ad6de8aa50144d37a763e7bc29ed2e6ce49400d7e048b4ae78de770", func := "loop.example/g03405/laws.FnExactIsFunction", spec := "fnExactIsFunction", apart := false, narrowed := true }
def FnExactIsFunctionUptoSaid : Prop := fnExactIsFunctionUptoRow.holds Try.pinned (OpenSpec.upto fnExactIsFunctionSpec)

/-- 'laws.FnExactGreatestVector', WHERE WHAT IT READS IS OF BULK AT MOST 1048576: true; the input reads as it did. -/
def fnExactGreatestVectorUptoRow : OpenClaim := { program := "ytijdjdekdcoeiaa", sum := "1fe693810ad6de8aa50144d37a763e7bc29ed2e6ce49400d7e048b4ae78de770", func := "loop.example/g03405/laws.FnExactGreatestVector", spec := "fnExactGreatestVector", unfollowed := true, recurses := true, apart := false, narrowed := true }
def FnExactGreatestVectorUptoSaid : Prop := fnExactGreatestVectorUptoRow.holds Try.pinned (OpenSpec.upto fnExactGreatestVectorSpec)

/-- 'laws.FnExactIsGrounded', WHERE WHAT IT READS IS OF BULK AT MOST 1048576: true; the input reads as it did. -/
def fnExactIsGroundedUptoRow : OpenClaim := { program := "ytijdjdekdcoeiaa", sum := "1fe693810ad6de8aa50144d37a763e7bc29ed2e6ce49400d7e048b4ae78de770", func := "loop.example/g03405/laws.FnExactIsGrounded", spec := "fnExactIsGrounded", apart := false, narrowed := true }
def FnExactIsGroundedUptoSaid : Prop := fnExactIsGroundedUptoRow.holds Try.pinned (OpenSpec.upto fnExactIsGroundedSpec)

/-- 'laws.FnExactValueOf', WHERE WHAT IT READS IS OF BULK AT MOST 1048576: true; the input reads as it did. -/
def fnExactValueOfUptoRow : OpenClaim := { program := "ytijdjdekdcoeiaa", sum := "1fe693810ad6de8aa50144d37a763e7bc29ed2e6ce49400d7e048b4ae78de770", func := "loop.example/g03405/laws.FnExactValueOf", spec := "fnExactValueOf", apart := false, narrowed := true }
def FnExactValueOfUptoSaid : Prop := fnExactValueOfUptoRow.holds Try.pinned (OpenSpec.upto fnExactValueOfSpec)

/-- 'laws.FnExactGainOf', WHERE WHAT IT READS IS OF BULK AT MOST 1048576: true; the input reads as it did. -/
def fnExactGainOfUptoRow : OpenClaim := { program := "ytijdjdekdcoeiaa", sum := "1fe693810ad6de8aa50144d37a763e7bc29ed2e6ce49400d7e048b4ae78de770", func := "loop.example/g03405/laws.FnExactGainOf", spec := "fnExactGainOf", apart := false, narrowed := true }
def FnExactGainOfUptoSaid : Prop := fnExactGainOfUptoRow.holds Try.pinned (OpenSpec.upto fnExactGainOfSpec)

/-- 'laws.FnExactIsIncreasing', WHERE WHAT IT READS IS OF BULK AT MOST 1048576: true; the input reads as it did. -/
def fnExactIsIncreasingUptoRow : OpenClaim := { program := "ytijdjdekdcoeiaa", sum := "1fe693810ad6de8aa50144d37a763e7bc29ed2e6ce49400d7e048b4ae78de770", func := "loop.example/g03405/laws.FnExactIsIncreasing", spec := "fnExactIsIncreasing", apart := false, narrowed := true }
def FnExactIsIncreasingUptoSaid : Prop := fnExactIsIncreasingUptoRow.holds Try.pinned (OpenSpec.upto fnExactIsIncreasingSpec)

/-- 'laws.FnExactSplitOf', WHERE WHAT IT READS IS OF BULK AT MOST 1048576: true; the input reads as it did. -/
def fnExactSplitOfUptoRow : OpenClaim := { program := "ytijdjdekdcoeiaa", sum := "1fe693810ad6de8aa50144d37a763e7bc29ed2e6ce49400d7e048b4ae78de770", func := "loop.example/g03405/laws.FnExactSplitOf", spec := "fnExactSplitOf", apart := false, narrowed := true }
def FnExactSplitOfUptoSaid : Prop := fnExactSplitOfUptoRow.holds Try.pinned (OpenSpec.upto fnExactSplitOfSpec)

/-- 'laws.FnExactIsSubmodular', WHERE WHAT IT READS IS OF BULK AT MOST 1048576: true; the input reads as it did. -/
def fnExactIsSubmodularUptoRow : OpenClaim := { program := "ytijdjdekdcoeiaa", sum := "1fe693810ad6de8aa50144d37a763e7bc29ed2e6ce49400d7e048b4ae78de770", func := "loop.example/g03405/laws.FnExactIsSubmodular", spec := "fnExactIsSubmodular", unfollowed := true, recurses := true, apart := false, narrowed := true }
def FnExactIsSubmodularUptoSaid : Prop := fnExactIsSubmodularUptoRow.holds Try.pinned (OpenSpec.upto fnExactIsSubmodularSpec)

/-- 'laws.FnExactTruncateFunction', WHERE WHAT IT READS IS OF BULK AT MOST 1048576: true; the input reads as it did. -/
def fnExactTruncateFunctionUptoRow : OpenClaim := { program := "ytijdjdekdcoeiaa", sum := "1fe693810ad6de8aa50144d37a763e7bc29ed2e6ce49400d7e048b4ae78de770", func := "loop.example/g03405/laws.FnExactTruncateFunction", spec := "fnExactTruncateFunction", unfollowed := true, recurses := true, apart := false, narrowed := true }
def FnExactTruncateFunctionUptoSaid : Prop := fnExactTruncateFunctionUptoRow.holds Try.pinned (OpenSpec.upto fnExactTruncateFunctionSpec)

end Rows
end Go.Proofs.Ytijdjdekdcoeiaa
