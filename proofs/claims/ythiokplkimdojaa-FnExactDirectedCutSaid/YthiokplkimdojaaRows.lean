/-
  No cell of these rows narrows 'for every input' (looked for: loops, veiled, ifaces, maps, wideKeys, modest, calm, conditions, laid).
  DERIVED. THE GIVEN ROWS OF THIS SEAT. 11 by the template 'for every input the law returns true; each argument reads behind the call as it read before'; 0 by the template 'total and deterministic' (their statements: YthiokplkimdojaaTotals.lean).
  GIVEN WITH THE SEED: the statements are not yours to turn. If you find one false, say at which input.
  Laid BY PROGRAM, IN A SANDBOX (cutbox-rows.mjs): the forced cells as the released guide's own fill.sh prints them over the translation 4911ee583e16a231… (all of the seat's roots in one cut). By AI agents, Wed Nov 11 2026. No macro, syntax, notation, axiom, sorry.
-/
import Derived.Test.YthiokplkimdojaaChecked
import GoSem.Claim
import GoSem.ClaimJoined
import GoSem.ClaimMapViews
import Derived.JoinedTies
import Derived.KernelRfl
namespace Go.Proofs.Ythiokplkimdojaa
/- THE CELL 'sum', in the pinned program and in every row, IS THE sha256 OF THE DUMP (.gsa) THAT YthiokplkimdojaaProg.lean LOADS. Nothing in Lean hashes anything: it is a label: what it is worth is what the hold of that sum in a sandbox is worth. -/
noncomputable def Try.pinned : Pinned := { name := "ythiokplkimdojaa", sum := "4911ee583e16a231c04cdbf4384a8ecc47939bd7846a067f74a09e736b2e159d", checked := Try.checked }
namespace Rows
def none {H : Type} : Left H := { results := [], args := [] }

/-- 'laws.FnExactIsSupermodular': WHATEVER THE INPUT: true; the input reads as it did. -/
def fnExactIsSupermodularSpec : ChangeSpec := { name := "fnExactIsSupermodular", fn := fun _ => fun
  | [d] => { results := [.lit (.bool true)], args := [d] }
  | _ => none }
def fnExactIsSupermodularRow : OpenClaim := { program := "ythiokplkimdojaa", sum := "4911ee583e16a231c04cdbf4384a8ecc47939bd7846a067f74a09e736b2e159d", func := "loop.example/g03405/laws.FnExactIsSupermodular", spec := "fnExactIsSupermodular", unfollowed := true, recurses := true, apart := false }
def FnExactIsSupermodularSaid : Prop := fnExactIsSupermodularRow.holds Try.pinned (OpenSpec.ofChange fnExactIsSupermodularSpec)

/-- ITS FALSE NEIGHBOUR: 'it returns false'. Refute it at one input. -/
def fnExactIsSupermodularWrong : ChangeSpec := { name := "fnExactIsSupermodular", fn := fun _ => fun
  | [d] => { results := [.lit (.bool false)], args := [d] }
  | _ => none }
def FnExactIsSupermodularWrongFalsely : Prop := fnExactIsSupermodularRow.holds Try.pinned (OpenSpec.ofChange fnExactIsSupermodularWrong)

/-- 'laws.FnExactIsModular': WHATEVER THE INPUT: true; the input reads as it did. -/
def fnExactIsModularSpec : ChangeSpec := { name := "fnExactIsModular", fn := fun _ => fun
  | [d] => { results := [.lit (.bool true)], args := [d] }
  | _ => none }
def fnExactIsModularRow : OpenClaim := { program := "ythiokplkimdojaa", sum := "4911ee583e16a231c04cdbf4384a8ecc47939bd7846a067f74a09e736b2e159d", func := "loop.example/g03405/laws.FnExactIsModular", spec := "fnExactIsModular", unfollowed := true, recurses := true, apart := false }
def FnExactIsModularSaid : Prop := fnExactIsModularRow.holds Try.pinned (OpenSpec.ofChange fnExactIsModularSpec)

/-- ITS FALSE NEIGHBOUR: 'it returns false'. Refute it at one input. -/
def fnExactIsModularWrong : ChangeSpec := { name := "fnExactIsModular", fn := fun _ => fun
  | [d] => { results := [.lit (.bool false)], args := [d] }
  | _ => none }
def FnExactIsModularWrongFalsely : Prop := fnExactIsModularRow.holds Try.pinned (OpenSpec.ofChange fnExactIsModularWrong)

/-- 'laws.FnExactRestrictFunction': WHATEVER THE INPUT: true; the input reads as it did. -/
def fnExactRestrictFunctionSpec : ChangeSpec := { name := "fnExactRestrictFunction", fn := fun _ => fun
  | [d1, d2] => { results := [.lit (.bool true)], args := [d1, d2] }
  | _ => none }
def fnExactRestrictFunctionRow : OpenClaim := { program := "ythiokplkimdojaa", sum := "4911ee583e16a231c04cdbf4384a8ecc47939bd7846a067f74a09e736b2e159d", func := "loop.example/g03405/laws.FnExactRestrictFunction", spec := "fnExactRestrictFunction", unfollowed := true, recurses := true, apart := false }
def FnExactRestrictFunctionSaid : Prop := fnExactRestrictFunctionRow.holds Try.pinned (OpenSpec.ofChange fnExactRestrictFunctionSpec)

/-- ITS FALSE NEIGHBOUR: 'it returns false'. Refute it at one input. -/
def fnExactRestrictFunctionWrong : ChangeSpec := { name := "fnExactRestrictFunction", fn := fun _ => fun
  | [d1, d2] => { results := [.lit (.bool false)], args := [d1, d2] }
  | _ => none }
def FnExactRestrictFunctionWrongFalsely : Prop := fnExactRestrictFunctionRow.holds Try.pinned (OpenSpec.ofChange fnExactRestrictFunctionWrong)

/-- 'laws.FnExactCoverFunction': WHATEVER THE INPUT: true; the input reads as it did. -/
def fnExactCoverFunctionSpec : ChangeSpec := { name := "fnExactCoverFunction", fn := fun _ => fun
  | [d1, d2] => { results := [.lit (.bool true)], args := [d1, d2] }
  | _ => none }
def fnExactCoverFunctionRow : OpenClaim := { program := "ythiokplkimdojaa", sum := "4911ee583e16a231c04cdbf4384a8ecc47939bd7846a067f74a09e736b2e159d", func := "loop.example/g03405/laws.FnExactCoverFunction", spec := "fnExactCoverFunction", unfollowed := true, recurses := true, apart := false }
def FnExactCoverFunctionSaid : Prop := fnExactCoverFunctionRow.holds Try.pinned (OpenSpec.ofChange fnExactCoverFunctionSpec)

/-- ITS FALSE NEIGHBOUR: 'it returns false'. Refute it at one input. -/
def fnExactCoverFunctionWrong : ChangeSpec := { name := "fnExactCoverFunction", fn := fun _ => fun
  | [d1, d2] => { results := [.lit (.bool false)], args := [d1, d2] }
  | _ => none }
def FnExactCoverFunctionWrongFalsely : Prop := fnExactCoverFunctionRow.holds Try.pinned (OpenSpec.ofChange fnExactCoverFunctionWrong)

/-- 'laws.FnExactContractFunction': WHATEVER THE INPUT: true; the input reads as it did. -/
def fnExactContractFunctionSpec : ChangeSpec := { name := "fnExactContractFunction", fn := fun _ => fun
  | [d1, d2] => { results := [.lit (.bool true)], args := [d1, d2] }
  | _ => none }
def fnExactContractFunctionRow : OpenClaim := { program := "ythiokplkimdojaa", sum := "4911ee583e16a231c04cdbf4384a8ecc47939bd7846a067f74a09e736b2e159d", func := "loop.example/g03405/laws.FnExactContractFunction", spec := "fnExactContractFunction", unfollowed := true, recurses := true, apart := false }
def FnExactContractFunctionSaid : Prop := fnExactContractFunctionRow.holds Try.pinned (OpenSpec.ofChange fnExactContractFunctionSpec)

/-- ITS FALSE NEIGHBOUR: 'it returns false'. Refute it at one input. -/
def fnExactContractFunctionWrong : ChangeSpec := { name := "fnExactContractFunction", fn := fun _ => fun
  | [d1, d2] => { results := [.lit (.bool false)], args := [d1, d2] }
  | _ => none }
def FnExactContractFunctionWrongFalsely : Prop := fnExactContractFunctionRow.holds Try.pinned (OpenSpec.ofChange fnExactContractFunctionWrong)

/-- 'laws.FnExactClosureOf': WHATEVER THE INPUT: true; the input reads as it did. -/
def fnExactClosureOfSpec : ChangeSpec := { name := "fnExactClosureOf", fn := fun _ => fun
  | [d1, d2] => { results := [.lit (.bool true)], args := [d1, d2] }
  | _ => none }
def fnExactClosureOfRow : OpenClaim := { program := "ythiokplkimdojaa", sum := "4911ee583e16a231c04cdbf4384a8ecc47939bd7846a067f74a09e736b2e159d", func := "loop.example/g03405/laws.FnExactClosureOf", spec := "fnExactClosureOf", unfollowed := true, recurses := true, apart := false }
def FnExactClosureOfSaid : Prop := fnExactClosureOfRow.holds Try.pinned (OpenSpec.ofChange fnExactClosureOfSpec)

/-- ITS FALSE NEIGHBOUR: 'it returns false'. Refute it at one input. -/
def fnExactClosureOfWrong : ChangeSpec := { name := "fnExactClosureOf", fn := fun _ => fun
  | [d1, d2] => { results := [.lit (.bool false)], args := [d1, d2] }
  | _ => none }
def FnExactClosureOfWrongFalsely : Prop := fnExactClosureOfRow.holds Try.pinned (OpenSpec.ofChange fnExactClosureOfWrong)

/-- 'laws.FnExactIsFlat': WHATEVER THE INPUT: true; the input reads as it did. -/
def fnExactIsFlatSpec : ChangeSpec := { name := "fnExactIsFlat", fn := fun _ => fun
  | [d1, d2] => { results := [.lit (.bool true)], args := [d1, d2] }
  | _ => none }
def fnExactIsFlatRow : OpenClaim := { program := "ythiokplkimdojaa", sum := "4911ee583e16a231c04cdbf4384a8ecc47939bd7846a067f74a09e736b2e159d", func := "loop.example/g03405/laws.FnExactIsFlat", spec := "fnExactIsFlat", unfollowed := true, recurses := true, apart := false }
def FnExactIsFlatSaid : Prop := fnExactIsFlatRow.holds Try.pinned (OpenSpec.ofChange fnExactIsFlatSpec)

/-- ITS FALSE NEIGHBOUR: 'it returns false'. Refute it at one input. -/
def fnExactIsFlatWrong : ChangeSpec := { name := "fnExactIsFlat", fn := fun _ => fun
  | [d1, d2] => { results := [.lit (.bool false)], args := [d1, d2] }
  | _ => none }
def FnExactIsFlatWrongFalsely : Prop := fnExactIsFlatRow.holds Try.pinned (OpenSpec.ofChange fnExactIsFlatWrong)

/-- 'laws.FnExactCutFunction': WHATEVER THE INPUT: true; the input reads as it did. -/
def fnExactCutFunctionSpec : ChangeSpec := { name := "fnExactCutFunction", fn := fun _ => fun
  | [d1, d2] => { results := [.lit (.bool true)], args := [d1, d2] }
  | _ => none }
def fnExactCutFunctionRow : OpenClaim := { program := "ythiokplkimdojaa", sum := "4911ee583e16a231c04cdbf4384a8ecc47939bd7846a067f74a09e736b2e159d", func := "loop.example/g03405/laws.FnExactCutFunction", spec := "fnExactCutFunction", unfollowed := true, recurses := true, apart := false }
def FnExactCutFunctionSaid : Prop := fnExactCutFunctionRow.holds Try.pinned (OpenSpec.ofChange fnExactCutFunctionSpec)

/-- ITS FALSE NEIGHBOUR: 'it returns false'. Refute it at one input. -/
def fnExactCutFunctionWrong : ChangeSpec := { name := "fnExactCutFunction", fn := fun _ => fun
  | [d1, d2] => { results := [.lit (.bool false)], args := [d1, d2] }
  | _ => none }
def FnExactCutFunctionWrongFalsely : Prop := fnExactCutFunctionRow.holds Try.pinned (OpenSpec.ofChange fnExactCutFunctionWrong)

/-- 'laws.FnExactDirectedCut': WHATEVER THE INPUT: true; the input reads as it did. -/
def fnExactDirectedCutSpec : ChangeSpec := { name := "fnExactDirectedCut", fn := fun _ => fun
  | [d1, d2] => { results := [.lit (.bool true)], args := [d1, d2] }
  | _ => none }
def fnExactDirectedCutRow : OpenClaim := { program := "ythiokplkimdojaa", sum := "4911ee583e16a231c04cdbf4384a8ecc47939bd7846a067f74a09e736b2e159d", func := "loop.example/g03405/laws.FnExactDirectedCut", spec := "fnExactDirectedCut", unfollowed := true, recurses := true, apart := false }
def FnExactDirectedCutSaid : Prop := fnExactDirectedCutRow.holds Try.pinned (OpenSpec.ofChange fnExactDirectedCutSpec)

/-- ITS FALSE NEIGHBOUR: 'it returns false'. Refute it at one input. -/
def fnExactDirectedCutWrong : ChangeSpec := { name := "fnExactDirectedCut", fn := fun _ => fun
  | [d1, d2] => { results := [.lit (.bool false)], args := [d1, d2] }
  | _ => none }
def FnExactDirectedCutWrongFalsely : Prop := fnExactDirectedCutRow.holds Try.pinned (OpenSpec.ofChange fnExactDirectedCutWrong)

/-- 'laws.FnExactReduceFunction': WHATEVER THE INPUT: true; the input reads as it did. -/
def fnExactReduceFunctionSpec : ChangeSpec := { name := "fnExactReduceFunction", fn := fun _ => fun
  | [d1, d2] => { results := [.lit (.bool true)], args := [d1, d2] }
  | _ => none }
def fnExactReduceFunctionRow : OpenClaim := { program := "ythiokplkimdojaa", sum := "4911ee583e16a231c04cdbf4384a8ecc47939bd7846a067f74a09e736b2e159d", func := "loop.example/g03405/laws.FnExactReduceFunction", spec := "fnExactReduceFunction", unfollowed := true, recurses := true, apart := false }
def FnExactReduceFunctionSaid : Prop := fnExactReduceFunctionRow.holds Try.pinned (OpenSpec.ofChange fnExactReduceFunctionSpec)

/-- ITS FALSE NEIGHBOUR: 'it returns false'. Refute it at one input. -/
def fnExactReduceFunctionWrong : ChangeSpec := { name := "fnExactReduceFunction", fn := fun _ => fun
  | [d1, d2] => { results := [.lit (.bool false)], args := [d1, d2] }
  | _ => none }
def FnExactReduceFunctionWrongFalsely : Prop := fnExactReduceFunctionRow.holds Try.pinned (OpenSpec.ofChange fnExactReduceFunctionWrong)

/-- 'laws.FnExactFlatsOf': WHATEVER THE INPUT: true; the input reads as it did. -/
def fnExactFlatsOfSpec : ChangeSpec := { name := "fnExactFlatsOf", fn := fun _ => fun
  | [d] => { results := [.lit (.bool true)], args := [d] }
  | _ => none }
def fnExactFlatsOfRow : OpenClaim := { program := "ythiokplkimdojaa", sum := "4911ee583e16a231c04cdbf4384a8ecc47939bd7846a067f74a09e736b2e159d", func := "loop.example/g03405/laws.FnExactFlatsOf", spec := "fnExactFlatsOf", unfollowed := true, recurses := true, apart := false }
def FnExactFlatsOfSaid : Prop := fnExactFlatsOfRow.holds Try.pinned (OpenSpec.ofChange fnExactFlatsOfSpec)

/-- ITS FALSE NEIGHBOUR: 'it returns false'. Refute it at one input. -/
def fnExactFlatsOfWrong : ChangeSpec := { name := "fnExactFlatsOf", fn := fun _ => fun
  | [d] => { results := [.lit (.bool false)], args := [d] }
  | _ => none }
def FnExactFlatsOfWrongFalsely : Prop := fnExactFlatsOfRow.holds Try.pinned (OpenSpec.ofChange fnExactFlatsOfWrong)

/- THE SECOND FORM. 'bulk': how many values and letters a reading holds, each counted each time it is reached (what is shared counts as often as it is met; a slice's spare places count too). A statement '..UptoSaid' is the law's where the arguments, and the package variables that the reading takes, are together of bulk at most 1048576: NARROWER than '..Said'. Prove '..Said' where nothing that the law and all that it calls make is longer than what came in: it says more and counts as full. Else prove '..UptoSaid'. A law counts once. -/
mutual
def uptoBulk {H : Type} : DataW H → Nat
  | .lit (.string bytes) => bytes.length + 1
  | .lit _ => 1
  | .nil => 1
  | .ptr d => uptoBulk d + 1
  | .slice elems spare => uptoBulkAll elems + uptoBulkAll spare + 1
  | .agg parts => uptoBulkAll parts + 1
  | .iface _ d => uptoBulk d + 1
  | .map entries => uptoBulkEntries entries + 1
  | .held _ => 1
def uptoBulkAll {H : Type} : List (DataW H) → Nat
  | [] => 0
  | d :: r => uptoBulk d + uptoBulkAll r
def uptoBulkEntries {H : Type} : List (Lit × DataW H) → Nat
  | [] => 0
  | x :: r => uptoBulkEntry x + uptoBulkEntries r
def uptoBulkEntry {H : Type} : Lit × DataW H → Nat
  | (.string bytes, d) => bytes.length + uptoBulk d + 1
  | (_, d) => uptoBulk d + 1
 end
def uptoSmall : (H : Type) → List (DataW H) → Bool := fun _ ds => decide (uptoBulkAll ds ≤ 1048576)
def OpenSpec.upto (s : _root_.Go.ChangeSpec) : _root_.Go.OpenSpec := { _root_.Go.OpenSpec.ofChange s with cond := some uptoSmall }

/-- 'laws.FnExactIsSupermodular', WHERE WHAT IT READS IS OF BULK AT MOST 1048576: true; the input reads as it did. -/
def fnExactIsSupermodularUptoRow : OpenClaim := { program := "ythiokplkimdojaa", sum := "4911ee583e16a231c04cdbf4384a8ecc47939bd7846a067f74a09e736b2e159d", func := "loop.example/g03405/laws.FnExactIsSupermodular", spec := "fnExactIsSupermodular", unfollowed := true, recurses := true, apart := false, narrowed := true }
def FnExactIsSupermodularUptoSaid : Prop := fnExactIsSupermodularUptoRow.holds Try.pinned (OpenSpec.upto fnExactIsSupermodularSpec)

/-- 'laws.FnExactIsModular', WHERE WHAT IT READS IS OF BULK AT MOST 1048576: true; the input reads as it did. -/
def fnExactIsModularUptoRow : OpenClaim := { program := "ythiokplkimdojaa", sum := "4911ee583e16a231c04cdbf4384a8ecc47939bd7846a067f74a09e736b2e159d", func := "loop.example/g03405/laws.FnExactIsModular", spec := "fnExactIsModular", unfollowed := true, recurses := true, apart := false, narrowed := true }
def FnExactIsModularUptoSaid : Prop := fnExactIsModularUptoRow.holds Try.pinned (OpenSpec.upto fnExactIsModularSpec)

/-- 'laws.FnExactRestrictFunction', WHERE WHAT IT READS IS OF BULK AT MOST 1048576: true; the input reads as it did. -/
def fnExactRestrictFunctionUptoRow : OpenClaim := { program := "ythiokplkimdojaa", sum := "4911ee583e16a231c04cdbf4384a8ecc47939bd7846a067f74a09e736b2e159d", func := "loop.example/g03405/laws.FnExactRestrictFunction", spec := "fnExactRestrictFunction", unfollowed := true, recurses := true, apart := false, narrowed := true }
def FnExactRestrictFunctionUptoSaid : Prop := fnExactRestrictFunctionUptoRow.holds Try.pinned (OpenSpec.upto fnExactRestrictFunctionSpec)

/-- 'laws.FnExactCoverFunction', WHERE WHAT IT READS IS OF BULK AT MOST 1048576: true; the input reads as it did. -/
def fnExactCoverFunctionUptoRow : OpenClaim := { program := "ythiokplkimdojaa", sum := "4911ee583e16a231c04cdbf4384a8ecc47939bd7846a067f74a09e736b2e159d", func := "loop.example/g03405/laws.FnExactCoverFunction", spec := "fnExactCoverFunction", unfollowed := true, recurses := true, apart := false, narrowed := true }
def FnExactCoverFunctionUptoSaid : Prop := fnExactCoverFunctionUptoRow.holds Try.pinned (OpenSpec.upto fnExactCoverFunctionSpec)

/-- 'laws.FnExactContractFunction', WHERE WHAT IT READS IS OF BULK AT MOST 1048576: true; the input reads as it did. -/
def fnExactContractFunctionUptoRow : OpenClaim := { program := "ythiokplkimdojaa", sum := "4911ee583e16a231c04cdbf4384a8ecc47939bd7846a067f74a09e736b2e159d", func := "loop.example/g03405/laws.FnExactContractFunction", spec := "fnExactContractFunction", unfollowed := true, recurses := true, apart := false, narrowed := true }
def FnExactContractFunctionUptoSaid : Prop := fnExactContractFunctionUptoRow.holds Try.pinned (OpenSpec.upto fnExactContractFunctionSpec)

/-- 'laws.FnExactClosureOf', WHERE WHAT IT READS IS OF BULK AT MOST 1048576: true; the input reads as it did. -/
def fnExactClosureOfUptoRow : OpenClaim := { program := "ythiokplkimdojaa", sum := "4911ee583e16a231c04cdbf4384a8ecc47939bd7846a067f74a09e736b2e159d", func := "loop.example/g03405/laws.FnExactClosureOf", spec := "fnExactClosureOf", unfollowed := true, recurses := true, apart := false, narrowed := true }
def FnExactClosureOfUptoSaid : Prop := fnExactClosureOfUptoRow.holds Try.pinned (OpenSpec.upto fnExactClosureOfSpec)

/-- 'laws.FnExactIsFlat', WHERE WHAT IT READS IS OF BULK AT MOST 1048576: true; the input reads as it did. -/
def fnExactIsFlatUptoRow : OpenClaim := { program := "ythiokplkimdojaa", sum := "4911ee583e16a231c04cdbf4384a8ecc47939bd7846a067f74a09e736b2e159d", func := "loop.example/g03405/laws.FnExactIsFlat", spec := "fnExactIsFlat", unfollowed := true, recurses := true, apart := false, narrowed := true }
def FnExactIsFlatUptoSaid : Prop := fnExactIsFlatUptoRow.holds Try.pinned (OpenSpec.upto fnExactIsFlatSpec)

/-- 'laws.FnExactCutFunction', WHERE WHAT IT READS IS OF BULK AT MOST 1048576: true; the input reads as it did. -/
def fnExactCutFunctionUptoRow : OpenClaim := { program := "ythiokplkimdojaa", sum := "4911ee583e16a231c04cdbf4384a8ecc47939bd7846a067f74a09e736b2e159d", func := "loop.example/g03405/laws.FnExactCutFunction", spec := "fnExactCutFunction", unfollowed := true, recurses := true, apart := false, narrowed := true }
def FnExactCutFunctionUptoSaid : Prop := fnExactCutFunctionUptoRow.holds Try.pinned (OpenSpec.upto fnExactCutFunctionSpec)

/-- 'laws.FnExactDirectedCut', WHERE WHAT IT READS IS OF BULK AT MOST 1048576: true; the input reads as it did. -/
def fnExactDirectedCutUptoRow : OpenClaim := { program := "ythiokplkimdojaa", sum := "4911ee583e16a231c04cdbf4384a8ecc47939bd7846a067f74a09e736b2e159d", func := "loop.example/g03405/laws.FnExactDirectedCut", spec := "fnExactDirectedCut", unfollowed := true, recurses := true, apart := false, narrowed := true }
def FnExactDirectedCutUptoSaid : Prop := fnExactDirectedCutUptoRow.holds Try.pinned (OpenSpec.upto fnExactDirectedCutSpec)

/-- 'laws.FnExactReduceFunction', WHERE WHAT IT READS IS OF BULK AT MOST 1048576: true; the input reads as it did. -/
def fnExactReduceFunctionUptoRow : OpenClaim := { program := "ythiokplkimdojaa", sum := "4911ee583e16a231c04cdbf4384a8ecc47939bd7846a067f74a09e736b2e159d", func := "loop.example/g03405/laws.FnExactReduceFunction", spec := "fnExactReduceFunction", unfollowed := true, recurses := true, apart := false, narrowed := true }
def FnExactReduceFunctionUptoSaid : Prop := fnExactReduceFunctionUptoRow.holds Try.pinned (OpenSpec.upto fnExactReduceFunctionSpec)

/-- 'laws.FnExactFlatsOf', WHERE WHAT IT READS IS OF BULK AT MOST 1048576: true; the input reads as it did. -/
def fnExactFlatsOfUptoRow : OpenClaim := { program := "ythiokplkimdojaa", sum := "4911ee583e16a231c04cdbf4384a8ecc47939bd7846a067f74a09e736b2e159d", func := "loop.example/g03405/laws.FnExactFlatsOf", spec := "fnExactFlatsOf", unfollowed := true, recurses := true, apart := false, narrowed := true }
def FnExactFlatsOfUptoSaid : Prop := fnExactFlatsOfUptoRow.holds Try.pinned (OpenSpec.upto fnExactFlatsOfSpec)

end Rows
end Go.Proofs.Ythiokplkimdojaa
