/-
  No cell of these rows narrows 'for every input' (looked for: loops, veiled, ifaces, maps, wideKeys, modest, calm, conditions, laid).
  DERIVED. THE GIVEN ROWS OF THIS SEAT. 12 by the template 'for every input the law returns true; each argument reads behind the call as it read before'; 0 by the template 'total and deterministic' (their statements: YtijdamjfijkfjaaTotals.lean).
  GIVEN WITH THE SEED: the statements are not yours to turn. If you find one false, say at which input.
  Laid BY PROGRAM, IN A SANDBOX (cutbox-rows.mjs): the forced cells as the released guide's own fill.sh prints them over the translation d8f47aa221b4a97a… (all of the seat's roots in one cut). By AI agents, Wed Nov 11 2026. No macro, syntax, notation, axiom, sorry.
-/
import Derived.Test.YtijdamjfijkfjaaChecked
import GoSem.Claim
import GoSem.ClaimJoined
import GoSem.ClaimMapViews
import Derived.JoinedTies
import Derived.KernelRfl
namespace Go.Proofs.Ytijdamjfijkfjaa
/- THE CELL 'sum', in the pinned program and in every row, IS THE sha256 OF THE DUMP (.gsa) THAT YtijdamjfijkfjaaProg.lean LOADS. Nothing in Lean hashes anything: it is a label: what it is worth is what the hold of that sum in a sandbox is worth. -/
noncomputable def Try.pinned : Pinned := { name := "ytijdamjfijkfjaa", sum := "d8f47aa221b4a97ac0cafbfd09b8b9654e1a1903a6a9bbaa52c8669b5cf161cd", checked := Try.checked }
namespace Rows
def none {H : Type} : Left H := { results := [], args := [] }

/-- 'laws.FnExactOppositeFunction': WHATEVER THE INPUT: true; the input reads as it did. -/
def fnExactOppositeFunctionSpec : ChangeSpec := { name := "fnExactOppositeFunction", fn := fun _ => fun
  | [d] => { results := [.lit (.bool true)], args := [d] }
  | _ => none }
def fnExactOppositeFunctionRow : OpenClaim := { program := "ytijdamjfijkfjaa", sum := "d8f47aa221b4a97ac0cafbfd09b8b9654e1a1903a6a9bbaa52c8669b5cf161cd", func := "loop.example/g03405/laws.FnExactOppositeFunction", spec := "fnExactOppositeFunction", unfollowed := true, recurses := true, apart := false }
def FnExactOppositeFunctionSaid : Prop := fnExactOppositeFunctionRow.holds Try.pinned (OpenSpec.ofChange fnExactOppositeFunctionSpec)

/-- ITS FALSE NEIGHBOUR: 'it returns false'. Refute it at one input. -/
def fnExactOppositeFunctionWrong : ChangeSpec := { name := "fnExactOppositeFunction", fn := fun _ => fun
  | [d] => { results := [.lit (.bool false)], args := [d] }
  | _ => none }
def FnExactOppositeFunctionWrongFalsely : Prop := fnExactOppositeFunctionRow.holds Try.pinned (OpenSpec.ofChange fnExactOppositeFunctionWrong)

/-- 'laws.FnExactLowerFunction': WHATEVER THE INPUT: true; the input reads as it did. -/
def fnExactLowerFunctionSpec : ChangeSpec := { name := "fnExactLowerFunction", fn := fun _ => fun
  | [d] => { results := [.lit (.bool true)], args := [d] }
  | _ => none }
def fnExactLowerFunctionRow : OpenClaim := { program := "ytijdamjfijkfjaa", sum := "d8f47aa221b4a97ac0cafbfd09b8b9654e1a1903a6a9bbaa52c8669b5cf161cd", func := "loop.example/g03405/laws.FnExactLowerFunction", spec := "fnExactLowerFunction", unfollowed := true, recurses := true, apart := false }
def FnExactLowerFunctionSaid : Prop := fnExactLowerFunctionRow.holds Try.pinned (OpenSpec.ofChange fnExactLowerFunctionSpec)

/-- ITS FALSE NEIGHBOUR: 'it returns false'. Refute it at one input. -/
def fnExactLowerFunctionWrong : ChangeSpec := { name := "fnExactLowerFunction", fn := fun _ => fun
  | [d] => { results := [.lit (.bool false)], args := [d] }
  | _ => none }
def FnExactLowerFunctionWrongFalsely : Prop := fnExactLowerFunctionRow.holds Try.pinned (OpenSpec.ofChange fnExactLowerFunctionWrong)

/-- 'laws.FnExactScaleFunction': WHATEVER THE INPUT: true; the input reads as it did. -/
def fnExactScaleFunctionSpec : ChangeSpec := { name := "fnExactScaleFunction", fn := fun _ => fun
  | [d1, d2] => { results := [.lit (.bool true)], args := [d1, d2] }
  | _ => none }
def fnExactScaleFunctionRow : OpenClaim := { program := "ytijdamjfijkfjaa", sum := "d8f47aa221b4a97ac0cafbfd09b8b9654e1a1903a6a9bbaa52c8669b5cf161cd", func := "loop.example/g03405/laws.FnExactScaleFunction", spec := "fnExactScaleFunction", unfollowed := true, recurses := true, apart := false }
def FnExactScaleFunctionSaid : Prop := fnExactScaleFunctionRow.holds Try.pinned (OpenSpec.ofChange fnExactScaleFunctionSpec)

/-- ITS FALSE NEIGHBOUR: 'it returns false'. Refute it at one input. -/
def fnExactScaleFunctionWrong : ChangeSpec := { name := "fnExactScaleFunction", fn := fun _ => fun
  | [d1, d2] => { results := [.lit (.bool false)], args := [d1, d2] }
  | _ => none }
def FnExactScaleFunctionWrongFalsely : Prop := fnExactScaleFunctionRow.holds Try.pinned (OpenSpec.ofChange fnExactScaleFunctionWrong)

/-- 'laws.FnExactViolationOf': WHATEVER THE INPUT: true; the input reads as it did. -/
def fnExactViolationOfSpec : ChangeSpec := { name := "fnExactViolationOf", fn := fun _ => fun
  | [d] => { results := [.lit (.bool true)], args := [d] }
  | _ => none }
def fnExactViolationOfRow : OpenClaim := { program := "ytijdamjfijkfjaa", sum := "d8f47aa221b4a97ac0cafbfd09b8b9654e1a1903a6a9bbaa52c8669b5cf161cd", func := "loop.example/g03405/laws.FnExactViolationOf", spec := "fnExactViolationOf", unfollowed := true, recurses := true, apart := false }
def FnExactViolationOfSaid : Prop := fnExactViolationOfRow.holds Try.pinned (OpenSpec.ofChange fnExactViolationOfSpec)

/-- ITS FALSE NEIGHBOUR: 'it returns false'. Refute it at one input. -/
def fnExactViolationOfWrong : ChangeSpec := { name := "fnExactViolationOf", fn := fun _ => fun
  | [d] => { results := [.lit (.bool false)], args := [d] }
  | _ => none }
def FnExactViolationOfWrongFalsely : Prop := fnExactViolationOfRow.holds Try.pinned (OpenSpec.ofChange fnExactViolationOfWrong)

/-- 'laws.FnExactModularFunction': WHATEVER THE INPUT: true; the input reads as it did. -/
def fnExactModularFunctionSpec : ChangeSpec := { name := "fnExactModularFunction", fn := fun _ => fun
  | [d1, d2] => { results := [.lit (.bool true)], args := [d1, d2] }
  | _ => none }
def fnExactModularFunctionRow : OpenClaim := { program := "ytijdamjfijkfjaa", sum := "d8f47aa221b4a97ac0cafbfd09b8b9654e1a1903a6a9bbaa52c8669b5cf161cd", func := "loop.example/g03405/laws.FnExactModularFunction", spec := "fnExactModularFunction", unfollowed := true, recurses := true, apart := false }
def FnExactModularFunctionSaid : Prop := fnExactModularFunctionRow.holds Try.pinned (OpenSpec.ofChange fnExactModularFunctionSpec)

/-- ITS FALSE NEIGHBOUR: 'it returns false'. Refute it at one input. -/
def fnExactModularFunctionWrong : ChangeSpec := { name := "fnExactModularFunction", fn := fun _ => fun
  | [d1, d2] => { results := [.lit (.bool false)], args := [d1, d2] }
  | _ => none }
def FnExactModularFunctionWrongFalsely : Prop := fnExactModularFunctionRow.holds Try.pinned (OpenSpec.ofChange fnExactModularFunctionWrong)

/-- 'laws.FnExactAddFunctions': WHATEVER THE INPUT: true; the input reads as it did. -/
def fnExactAddFunctionsSpec : ChangeSpec := { name := "fnExactAddFunctions", fn := fun _ => fun
  | [d1, d2] => { results := [.lit (.bool true)], args := [d1, d2] }
  | _ => none }
def fnExactAddFunctionsRow : OpenClaim := { program := "ytijdamjfijkfjaa", sum := "d8f47aa221b4a97ac0cafbfd09b8b9654e1a1903a6a9bbaa52c8669b5cf161cd", func := "loop.example/g03405/laws.FnExactAddFunctions", spec := "fnExactAddFunctions", unfollowed := true, recurses := true, apart := false }
def FnExactAddFunctionsSaid : Prop := fnExactAddFunctionsRow.holds Try.pinned (OpenSpec.ofChange fnExactAddFunctionsSpec)

/-- ITS FALSE NEIGHBOUR: 'it returns false'. Refute it at one input. -/
def fnExactAddFunctionsWrong : ChangeSpec := { name := "fnExactAddFunctions", fn := fun _ => fun
  | [d1, d2] => { results := [.lit (.bool false)], args := [d1, d2] }
  | _ => none }
def FnExactAddFunctionsWrongFalsely : Prop := fnExactAddFunctionsRow.holds Try.pinned (OpenSpec.ofChange fnExactAddFunctionsWrong)

/-- 'laws.FnExactIncreasingHull': WHATEVER THE INPUT: true; the input reads as it did. -/
def fnExactIncreasingHullSpec : ChangeSpec := { name := "fnExactIncreasingHull", fn := fun _ => fun
  | [d] => { results := [.lit (.bool true)], args := [d] }
  | _ => none }
def fnExactIncreasingHullRow : OpenClaim := { program := "ytijdamjfijkfjaa", sum := "d8f47aa221b4a97ac0cafbfd09b8b9654e1a1903a6a9bbaa52c8669b5cf161cd", func := "loop.example/g03405/laws.FnExactIncreasingHull", spec := "fnExactIncreasingHull", unfollowed := true, recurses := true, apart := false }
def FnExactIncreasingHullSaid : Prop := fnExactIncreasingHullRow.holds Try.pinned (OpenSpec.ofChange fnExactIncreasingHullSpec)

/-- ITS FALSE NEIGHBOUR: 'it returns false'. Refute it at one input. -/
def fnExactIncreasingHullWrong : ChangeSpec := { name := "fnExactIncreasingHull", fn := fun _ => fun
  | [d] => { results := [.lit (.bool false)], args := [d] }
  | _ => none }
def FnExactIncreasingHullWrongFalsely : Prop := fnExactIncreasingHullRow.holds Try.pinned (OpenSpec.ofChange fnExactIncreasingHullWrong)

/-- 'laws.FnExactPartitionRank': WHATEVER THE INPUT: true; the input reads as it did. -/
def fnExactPartitionRankSpec : ChangeSpec := { name := "fnExactPartitionRank", fn := fun _ => fun
  | [d1, d2] => { results := [.lit (.bool true)], args := [d1, d2] }
  | _ => none }
def fnExactPartitionRankRow : OpenClaim := { program := "ytijdamjfijkfjaa", sum := "d8f47aa221b4a97ac0cafbfd09b8b9654e1a1903a6a9bbaa52c8669b5cf161cd", func := "loop.example/g03405/laws.FnExactPartitionRank", spec := "fnExactPartitionRank", unfollowed := true, recurses := true, apart := false }
def FnExactPartitionRankSaid : Prop := fnExactPartitionRankRow.holds Try.pinned (OpenSpec.ofChange fnExactPartitionRankSpec)

/-- ITS FALSE NEIGHBOUR: 'it returns false'. Refute it at one input. -/
def fnExactPartitionRankWrong : ChangeSpec := { name := "fnExactPartitionRank", fn := fun _ => fun
  | [d1, d2] => { results := [.lit (.bool false)], args := [d1, d2] }
  | _ => none }
def FnExactPartitionRankWrongFalsely : Prop := fnExactPartitionRankRow.holds Try.pinned (OpenSpec.ofChange fnExactPartitionRankWrong)

/-- 'laws.FnExactIsPolymatroid': WHATEVER THE INPUT: true; the input reads as it did. -/
def fnExactIsPolymatroidSpec : ChangeSpec := { name := "fnExactIsPolymatroid", fn := fun _ => fun
  | [d] => { results := [.lit (.bool true)], args := [d] }
  | _ => none }
def fnExactIsPolymatroidRow : OpenClaim := { program := "ytijdamjfijkfjaa", sum := "d8f47aa221b4a97ac0cafbfd09b8b9654e1a1903a6a9bbaa52c8669b5cf161cd", func := "loop.example/g03405/laws.FnExactIsPolymatroid", spec := "fnExactIsPolymatroid", unfollowed := true, recurses := true, apart := false }
def FnExactIsPolymatroidSaid : Prop := fnExactIsPolymatroidRow.holds Try.pinned (OpenSpec.ofChange fnExactIsPolymatroidSpec)

/-- ITS FALSE NEIGHBOUR: 'it returns false'. Refute it at one input. -/
def fnExactIsPolymatroidWrong : ChangeSpec := { name := "fnExactIsPolymatroid", fn := fun _ => fun
  | [d] => { results := [.lit (.bool false)], args := [d] }
  | _ => none }
def FnExactIsPolymatroidWrongFalsely : Prop := fnExactIsPolymatroidRow.holds Try.pinned (OpenSpec.ofChange fnExactIsPolymatroidWrong)

/-- 'laws.FnExactConvolveFunctions': WHATEVER THE INPUT: true; the input reads as it did. -/
def fnExactConvolveFunctionsSpec : ChangeSpec := { name := "fnExactConvolveFunctions", fn := fun _ => fun
  | [d1, d2] => { results := [.lit (.bool true)], args := [d1, d2] }
  | _ => none }
def fnExactConvolveFunctionsRow : OpenClaim := { program := "ytijdamjfijkfjaa", sum := "d8f47aa221b4a97ac0cafbfd09b8b9654e1a1903a6a9bbaa52c8669b5cf161cd", func := "loop.example/g03405/laws.FnExactConvolveFunctions", spec := "fnExactConvolveFunctions", unfollowed := true, recurses := true, apart := false }
def FnExactConvolveFunctionsSaid : Prop := fnExactConvolveFunctionsRow.holds Try.pinned (OpenSpec.ofChange fnExactConvolveFunctionsSpec)

/-- ITS FALSE NEIGHBOUR: 'it returns false'. Refute it at one input. -/
def fnExactConvolveFunctionsWrong : ChangeSpec := { name := "fnExactConvolveFunctions", fn := fun _ => fun
  | [d1, d2] => { results := [.lit (.bool false)], args := [d1, d2] }
  | _ => none }
def FnExactConvolveFunctionsWrongFalsely : Prop := fnExactConvolveFunctionsRow.holds Try.pinned (OpenSpec.ofChange fnExactConvolveFunctionsWrong)

/-- 'laws.FnExactDualFunction': WHATEVER THE INPUT: true; the input reads as it did. -/
def fnExactDualFunctionSpec : ChangeSpec := { name := "fnExactDualFunction", fn := fun _ => fun
  | [d1, d2] => { results := [.lit (.bool true)], args := [d1, d2] }
  | _ => none }
def fnExactDualFunctionRow : OpenClaim := { program := "ytijdamjfijkfjaa", sum := "d8f47aa221b4a97ac0cafbfd09b8b9654e1a1903a6a9bbaa52c8669b5cf161cd", func := "loop.example/g03405/laws.FnExactDualFunction", spec := "fnExactDualFunction", unfollowed := true, recurses := true, apart := false }
def FnExactDualFunctionSaid : Prop := fnExactDualFunctionRow.holds Try.pinned (OpenSpec.ofChange fnExactDualFunctionSpec)

/-- ITS FALSE NEIGHBOUR: 'it returns false'. Refute it at one input. -/
def fnExactDualFunctionWrong : ChangeSpec := { name := "fnExactDualFunction", fn := fun _ => fun
  | [d1, d2] => { results := [.lit (.bool false)], args := [d1, d2] }
  | _ => none }
def FnExactDualFunctionWrongFalsely : Prop := fnExactDualFunctionRow.holds Try.pinned (OpenSpec.ofChange fnExactDualFunctionWrong)

/-- 'laws.FnExactSizeFunction': WHATEVER THE INPUT: true; the input reads as it did. -/
def fnExactSizeFunctionSpec : ChangeSpec := { name := "fnExactSizeFunction", fn := fun _ => fun
  | [d] => { results := [.lit (.bool true)], args := [d] }
  | _ => none }
def fnExactSizeFunctionRow : OpenClaim := { program := "ytijdamjfijkfjaa", sum := "d8f47aa221b4a97ac0cafbfd09b8b9654e1a1903a6a9bbaa52c8669b5cf161cd", func := "loop.example/g03405/laws.FnExactSizeFunction", spec := "fnExactSizeFunction", unfollowed := true, recurses := true, apart := false }
def FnExactSizeFunctionSaid : Prop := fnExactSizeFunctionRow.holds Try.pinned (OpenSpec.ofChange fnExactSizeFunctionSpec)

/-- ITS FALSE NEIGHBOUR: 'it returns false'. Refute it at one input. -/
def fnExactSizeFunctionWrong : ChangeSpec := { name := "fnExactSizeFunction", fn := fun _ => fun
  | [d] => { results := [.lit (.bool false)], args := [d] }
  | _ => none }
def FnExactSizeFunctionWrongFalsely : Prop := fnExactSizeFunctionRow.holds Try.pinned (OpenSpec.ofChange fnExactSizeFunctionWrong)

/- THE SECOND FORM. 'bulk': how many values and letters a reading holds, each counted each time it is reached (what is shared counts as often as it is met; a slice's spare places count too). A statement '..UptoSaid' is the law's where the arguments, and the package variables that the reading takes, are together of bulk at most 1048576: NARROWER than '..Said'. Prove '..Said' where nothing that the law and all that it calls make is longer than what came in: it says more and counts as full. Else prove '..UptoSaid'. A law counts once. -/
mutual
def uptoBulk {H : Type} : DataW H → Nat
  | .lit (.string bytes) => bytes.length + 1
  | .lit _ => 1
  | .nil => 1
  | .ptr d => uptoBulk d + 1
  | .slice elems spare => uptoBulkAll elems + uptoBulkAll spare + 1
  | .agg parts => uptoBulkAll parts + 1
  | .iface _ d => uptoBulk d + 1
  | .map entries => uptoBulkEntries entries + 1
  | .held _ => 1
def uptoBulkAll {H : Type} : List (DataW H) → Nat
  | [] => 0
  | d :: r => uptoBulk d + uptoBulkAll r
def uptoBulkEntries {H : Type} : List (Lit × DataW H) → Nat
  | [] => 0
  | x :: r => uptoBulkEntry x + uptoBulkEntries r
def uptoBulkEntry {H : Type} : Lit × DataW H → Nat
  | (.string bytes, d) => bytes.length + uptoBulk d + 1
  | (_, d) => uptoBulk d + 1
 end
def uptoSmall : (H : Type) → List (DataW H) → Bool := fun _ ds => decide (uptoBulkAll ds ≤ 1048576)
def OpenSpec.upto (s : _root_.Go.ChangeSpec) : _root_.Go.OpenSpec := { _root_.Go.OpenSpec.ofChange s with cond := some uptoSmall }

/-- 'laws.FnExactOppositeFunction', WHERE WHAT IT READS IS OF BULK AT MOST 1048576: true; the input reads as it did. -/
def fnExactOppositeFunctionUptoRow : OpenClaim := { program := "ytijdamjfijkfjaa", sum := "d8f47aa221b4a97ac0cafbfd09b8b9654e1a1903a6a9bbaa52c8669b5cf161cd", func := "loop.example/g03405/laws.FnExactOppositeFunction", spec := "fnExactOppositeFunction", unfollowed := true, recurses := true, apart := false, narrowed := true }
def FnExactOppositeFunctionUptoSaid : Prop := fnExactOppositeFunctionUptoRow.holds Try.pinned (OpenSpec.upto fnExactOppositeFunctionSpec)

/-- 'laws.FnExactLowerFunction', WHERE WHAT IT READS IS OF BULK AT MOST 1048576: true; the input reads as it did. -/
def fnExactLowerFunctionUptoRow : OpenClaim := { program := "ytijdamjfijkfjaa", sum := "d8f47aa221b4a97ac0cafbfd09b8b9654e1a1903a6a9bbaa52c8669b5cf161cd", func := "loop.example/g03405/laws.FnExactLowerFunction", spec := "fnExactLowerFunction", unfollowed := true, recurses := true, apart := false, narrowed := true }
def FnExactLowerFunctionUptoSaid : Prop := fnExactLowerFunctionUptoRow.holds Try.pinned (OpenSpec.upto fnExactLowerFunctionSpec)

/-- 'laws.FnExactScaleFunction', WHERE WHAT IT READS IS OF BULK AT MOST 1048576: true; the input reads as it did. -/
def fnExactScaleFunctionUptoRow : OpenClaim := { program := "ytijdamjfijkfjaa", sum := "d8f47aa221b4a97ac0cafbfd09b8b9654e1a1903a6a9bbaa52c8669b5cf161cd", func := "loop.example/g03405/laws.FnExactScaleFunction", spec := "fnExactScaleFunction", unfollowed := true, recurses := true, apart := false, narrowed := true }
def FnExactScaleFunctionUptoSaid : Prop := fnExactScaleFunctionUptoRow.holds Try.pinned (OpenSpec.upto fnExactScaleFunctionSpec)

/-- 'laws.FnExactViolationOf', WHERE WHAT IT READS IS OF BULK AT MOST 1048576: true; the input reads as it did. -/
def fnExactViolationOfUptoRow : OpenClaim := { program := "ytijdamjfijkfjaa", sum := "d8f47aa221b4a97ac0cafbfd09b8b9654e1a1903a6a9bbaa52c8669b5cf161cd", func := "loop.example/g03405/laws.FnExactViolationOf", spec := "fnExactViolationOf", unfollowed := true, recurses := true, apart := false, narrowed := true }
def FnExactViolationOfUptoSaid : Prop := fnExactViolationOfUptoRow.holds Try.pinned (OpenSpec.upto fnExactViolationOfSpec)

/-- 'laws.FnExactModularFunction', WHERE WHAT IT READS IS OF BULK AT MOST 1048576: true; the input reads as it did. -/
def fnExactModularFunctionUptoRow : OpenClaim := { program := "ytijdamjfijkfjaa", sum := "d8f47aa221b4a97ac0cafbfd09b8b9654e1a1903a6a9bbaa52c8669b5cf161cd", func := "loop.example/g03405/laws.FnExactModularFunction", spec := "fnExactModularFunction", unfollowed := true, recurses := true, apart := false, narrowed := true }
def FnExactModularFunctionUptoSaid : Prop := fnExactModularFunctionUptoRow.holds Try.pinned (OpenSpec.upto fnExactModularFunctionSpec)

/-- 'laws.FnExactAddFunctions', WHERE WHAT IT READS IS OF BULK AT MOST 1048576: true; the input reads as it did. -/
def fnExactAddFunctionsUptoRow : OpenClaim := { program := "ytijdamjfijkfjaa", sum := "d8f47aa221b4a97ac0cafbfd09b8b9654e1a1903a6a9bbaa52c8669b5cf161cd", func := "loop.example/g03405/laws.FnExactAddFunctions", spec := "fnExactAddFunctions", unfollowed := true, recurses := true, apart := false, narrowed := true }
def FnExactAddFunctionsUptoSaid : Prop := fnExactAddFunctionsUptoRow.holds Try.pinned (OpenSpec.upto fnExactAddFunctionsSpec)

/-- 'laws.FnExactIncreasingHull', WHERE WHAT IT READS IS OF BULK AT MOST 1048576: true; the input reads as it did. -/
def fnExactIncreasingHullUptoRow : OpenClaim := { program := "ytijdamjfijkfjaa", sum := "d8f47aa221b4a97ac0cafbfd09b8b9654e1a1903a6a9bbaa52c8669b5cf161cd", func := "loop.example/g03405/laws.FnExactIncreasingHull", spec := "fnExactIncreasingHull", unfollowed := true, recurses := true, apart := false, narrowed := true }
def FnExactIncreasingHullUptoSaid : Prop := fnExactIncreasingHullUptoRow.holds Try.pinned (OpenSpec.upto fnExactIncreasingHullSpec)

/-- 'laws.FnExactPartitionRank', WHERE WHAT IT READS IS OF BULK AT MOST 1048576: true; the input reads as it did. -/
def fnExactPartitionRankUptoRow : OpenClaim := { program := "ytijdamjfijkfjaa", sum := "d8f47aa221b4a97ac0cafbfd09b8b9654e1a1903a6a9bbaa52c8669b5cf161cd", func := "loop.example/g03405/laws.FnExactPartitionRank", spec := "fnExactPartitionRank", unfollowed := true, recurses := true, apart := false, narrowed := true }
def FnExactPartitionRankUptoSaid : Prop := fnExactPartitionRankUptoRow.holds Try.pinned (OpenSpec.upto fnExactPartitionRankSpec)

/-- 'laws.FnExactIsPolymatroid', WHERE WHAT IT READS IS OF BULK AT MOST 1048576: true; the input reads as it did. -/
def fnExactIsPolymatroidUptoRow : OpenClaim := { program := "ytijdamjfijkfjaa", sum := "d8f47aa221b4a97ac0cafbfd09b8b9654e1a1903a6a9bbaa52c8669b5cf161cd", func := "loop.example/g03405/laws.FnExactIsPolymatroid", spec := "fnExactIsPolymatroid", unfollowed := true, recurses := true, apart := false, narrowed := true }
def FnExactIsPolymatroidUptoSaid : Prop := fnExactIsPolymatroidUptoRow.holds Try.pinned (OpenSpec.upto fnExactIsPolymatroidSpec)

/-- 'laws.FnExactConvolveFunctions', WHERE WHAT IT READS IS OF BULK AT MOST 1048576: true; the input reads as it did. -/
def fnExactConvolveFunctionsUptoRow : OpenClaim := { program := "ytijdamjfijkfjaa", sum := "d8f47aa221b4a97ac0cafbfd09b8b9654e1a1903a6a9bbaa52c8669b5cf161cd", func := "loop.example/g03405/laws.FnExactConvolveFunctions", spec := "fnExactConvolveFunctions", unfollowed := true, recurses := true, apart := false, narrowed := true }
def FnExactConvolveFunctionsUptoSaid : Prop := fnExactConvolveFunctionsUptoRow.holds Try.pinned (OpenSpec.upto fnExactConvolveFunctionsSpec)

/-- 'laws.FnExactDualFunction', WHERE WHAT IT READS IS OF BULK AT MOST 1048576: true; the input reads as it did. -/
def fnExactDualFunctionUptoRow : OpenClaim := { program := "ytijdamjfijkfjaa", sum := "d8f47aa221b4a97ac0cafbfd09b8b9654e1a1903a6a9bbaa52c8669b5cf161cd", func := "loop.example/g03405/laws.FnExactDualFunction", spec := "fnExactDualFunction", unfollowed := true, recurses := true, apart := false, narrowed := true }
def FnExactDualFunctionUptoSaid : Prop := fnExactDualFunctionUptoRow.holds Try.pinned (OpenSpec.upto fnExactDualFunctionSpec)

/-- 'laws.FnExactSizeFunction', WHERE WHAT IT READS IS OF BULK AT MOST 1048576: true; the input reads as it did. -/
def fnExactSizeFunctionUptoRow : OpenClaim := { program := "ytijdamjfijkfjaa", sum := "d8f47aa221b4a97ac0cafbfd09b8b9654e1a1903a6a9bbaa52c8669b5cf161cd", func := "loop.example/g03405/laws.FnExactSizeFunction", spec := "fnExactSizeFunction", unfollowed := true, recurses := true, apart := false, narrowed := true }
def FnExactSizeFunctionUptoSaid : Prop := fnExactSizeFunctionUptoRow.holds Try.pinned (OpenSpec.upto fnExactSizeFunctionSpec)

end Rows
end Go.Proofs.Ytijdamjfijkfjaa
