/-
  No cell of these rows narrows 'for every input' (looked for: loops, veiled, ifaces, maps, wideKeys, modest, calm, conditions, laid).
  DERIVED. THE GIVEN ROWS OF THIS SEAT. 14 by the template 'for every input the law returns true; each argument reads behind the call as it read before'; 0 by the template 'total and deterministic' (their statements: YtabbcepdinplfaaTotals.lean).
  GIVEN WITH THE SEED: the statements are not yours to turn. If you find one false, say at which input.
  Laid BY PROGRAM, IN A SANDBOX (cutbox-rows.mjs): the forced cells as the released guide's own fill.sh prints them over the translation c5905ebfd9cf8485… (all of the seat's roots in one cut). By AI agents, Wed Nov 11 2026. No macro, syntax, notation, axiom, sorry.
-/
import Derived.Test.YtabbcepdinplfaaChecked
import GoSem.Claim
import GoSem.ClaimJoined
import GoSem.ClaimMapViews
import Derived.JoinedTies
import Derived.KernelRfl
namespace Go.Proofs.Ytabbcepdinplfaa
/- THE CELL 'sum', in the pinned program and in every row, IS THE sha256 OF THE DUMP (.gsa) THAT YtabbcepdinplfaaProg.lean LOADS. Nothing in Lean hashes anything: it is a label: what it is worth is what the hold of that sum in a sandbox is worth. -/
noncomputable def Try.pinned : Pinned := { name := "ytabbcepdinplfaa", sum := "c5905ebfd9cf84856e9f320dc3bb15c67eb4cab66016fad363c199029798b3da", checked := Try.checked }
namespace Rows
def none {H : Type} : Left H := { results := [], args := [] }

/-- 'laws.FnExactConstants': WHATEVER THE INPUT: true; the input reads as it did. -/
def fnExactConstantsSpec : ChangeSpec := { name := "fnExactConstants", fn := fun _ => fun
  | [] => { results := [.lit (.bool true)], args := [] }
  | _ => none }
def fnExactConstantsRow : OpenClaim := { program := "ytabbcepdinplfaa", sum := "c5905ebfd9cf84856e9f320dc3bb15c67eb4cab66016fad363c199029798b3da", func := "loop.example/queryoptimizer/laws.FnExactConstants", spec := "fnExactConstants", apart := false }
def FnExactConstantsSaid : Prop := fnExactConstantsRow.holds Try.pinned (OpenSpec.ofChange fnExactConstantsSpec)

/-- ITS FALSE NEIGHBOUR: 'it returns false'. Refute it at one input. -/
def fnExactConstantsWrong : ChangeSpec := { name := "fnExactConstants", fn := fun _ => fun
  | [] => { results := [.lit (.bool false)], args := [] }
  | _ => none }
def FnExactConstantsWrongFalsely : Prop := fnExactConstantsRow.holds Try.pinned (OpenSpec.ofChange fnExactConstantsWrong)

/-- 'laws.FnExactValidValue': WHATEVER THE INPUT: true; the input reads as it did. -/
def fnExactValidValueSpec : ChangeSpec := { name := "fnExactValidValue", fn := fun _ => fun
  | [d] => { results := [.lit (.bool true)], args := [d] }
  | _ => none }
def fnExactValidValueRow : OpenClaim := { program := "ytabbcepdinplfaa", sum := "c5905ebfd9cf84856e9f320dc3bb15c67eb4cab66016fad363c199029798b3da", func := "loop.example/queryoptimizer/laws.FnExactValidValue", spec := "fnExactValidValue", apart := false }
def FnExactValidValueSaid : Prop := fnExactValidValueRow.holds Try.pinned (OpenSpec.ofChange fnExactValidValueSpec)

/-- ITS FALSE NEIGHBOUR: 'it returns false'. Refute it at one input. -/
def fnExactValidValueWrong : ChangeSpec := { name := "fnExactValidValue", fn := fun _ => fun
  | [d] => { results := [.lit (.bool false)], args := [d] }
  | _ => none }
def FnExactValidValueWrongFalsely : Prop := fnExactValidValueRow.holds Try.pinned (OpenSpec.ofChange fnExactValidValueWrong)

/-- 'laws.FnExactCompareValues': WHATEVER THE INPUT: true; the input reads as it did. -/
def fnExactCompareValuesSpec : ChangeSpec := { name := "fnExactCompareValues", fn := fun _ => fun
  | [d1, d2] => { results := [.lit (.bool true)], args := [d1, d2] }
  | _ => none }
def fnExactCompareValuesRow : OpenClaim := { program := "ytabbcepdinplfaa", sum := "c5905ebfd9cf84856e9f320dc3bb15c67eb4cab66016fad363c199029798b3da", func := "loop.example/queryoptimizer/laws.FnExactCompareValues", spec := "fnExactCompareValues", apart := false }
def FnExactCompareValuesSaid : Prop := fnExactCompareValuesRow.holds Try.pinned (OpenSpec.ofChange fnExactCompareValuesSpec)

/-- ITS FALSE NEIGHBOUR: 'it returns false'. Refute it at one input. -/
def fnExactCompareValuesWrong : ChangeSpec := { name := "fnExactCompareValues", fn := fun _ => fun
  | [d1, d2] => { results := [.lit (.bool false)], args := [d1, d2] }
  | _ => none }
def FnExactCompareValuesWrongFalsely : Prop := fnExactCompareValuesRow.holds Try.pinned (OpenSpec.ofChange fnExactCompareValuesWrong)

/-- 'laws.FnExactValidDependencies': WHATEVER THE INPUT: true; the input reads as it did. -/
def fnExactValidDependenciesSpec : ChangeSpec := { name := "fnExactValidDependencies", fn := fun _ => fun
  | [d1, d2] => { results := [.lit (.bool true)], args := [d1, d2] }
  | _ => none }
def fnExactValidDependenciesRow : OpenClaim := { program := "ytabbcepdinplfaa", sum := "c5905ebfd9cf84856e9f320dc3bb15c67eb4cab66016fad363c199029798b3da", func := "loop.example/queryoptimizer/laws.FnExactValidDependencies", spec := "fnExactValidDependencies", apart := false }
def FnExactValidDependenciesSaid : Prop := fnExactValidDependenciesRow.holds Try.pinned (OpenSpec.ofChange fnExactValidDependenciesSpec)

/-- ITS FALSE NEIGHBOUR: 'it returns false'. Refute it at one input. -/
def fnExactValidDependenciesWrong : ChangeSpec := { name := "fnExactValidDependencies", fn := fun _ => fun
  | [d1, d2] => { results := [.lit (.bool false)], args := [d1, d2] }
  | _ => none }
def FnExactValidDependenciesWrongFalsely : Prop := fnExactValidDependenciesRow.holds Try.pinned (OpenSpec.ofChange fnExactValidDependenciesWrong)

/-- 'laws.FnExactValidStats': WHATEVER THE INPUT: true; the input reads as it did. -/
def fnExactValidStatsSpec : ChangeSpec := { name := "fnExactValidStats", fn := fun _ => fun
  | [d1, d2] => { results := [.lit (.bool true)], args := [d1, d2] }
  | _ => none }
def fnExactValidStatsRow : OpenClaim := { program := "ytabbcepdinplfaa", sum := "c5905ebfd9cf84856e9f320dc3bb15c67eb4cab66016fad363c199029798b3da", func := "loop.example/queryoptimizer/laws.FnExactValidStats", spec := "fnExactValidStats", apart := false }
def FnExactValidStatsSaid : Prop := fnExactValidStatsRow.holds Try.pinned (OpenSpec.ofChange fnExactValidStatsSpec)

/-- ITS FALSE NEIGHBOUR: 'it returns false'. Refute it at one input. -/
def fnExactValidStatsWrong : ChangeSpec := { name := "fnExactValidStats", fn := fun _ => fun
  | [d1, d2] => { results := [.lit (.bool false)], args := [d1, d2] }
  | _ => none }
def FnExactValidStatsWrongFalsely : Prop := fnExactValidStatsRow.holds Try.pinned (OpenSpec.ofChange fnExactValidStatsWrong)

/-- 'laws.FnValueOrder': WHATEVER THE INPUT: true; the input reads as it did. -/
def fnValueOrderSpec : ChangeSpec := { name := "fnValueOrder", fn := fun _ => fun
  | [d] => { results := [.lit (.bool true)], args := [d] }
  | _ => none }
def fnValueOrderRow : OpenClaim := { program := "ytabbcepdinplfaa", sum := "c5905ebfd9cf84856e9f320dc3bb15c67eb4cab66016fad363c199029798b3da", func := "loop.example/queryoptimizer/laws.FnValueOrder", spec := "fnValueOrder", apart := false }
def FnValueOrderSaid : Prop := fnValueOrderRow.holds Try.pinned (OpenSpec.ofChange fnValueOrderSpec)

/-- ITS FALSE NEIGHBOUR: 'it returns false'. Refute it at one input. -/
def fnValueOrderWrong : ChangeSpec := { name := "fnValueOrder", fn := fun _ => fun
  | [d] => { results := [.lit (.bool false)], args := [d] }
  | _ => none }
def FnValueOrderWrongFalsely : Prop := fnValueOrderRow.holds Try.pinned (OpenSpec.ofChange fnValueOrderWrong)

/-- 'laws.FnExactClosureOf': WHATEVER THE INPUT: true; the input reads as it did. -/
def fnExactClosureOfSpec : ChangeSpec := { name := "fnExactClosureOf", fn := fun _ => fun
  | [d1, d2, d3] => { results := [.lit (.bool true)], args := [d1, d2, d3] }
  | _ => none }
def fnExactClosureOfRow : OpenClaim := { program := "ytabbcepdinplfaa", sum := "c5905ebfd9cf84856e9f320dc3bb15c67eb4cab66016fad363c199029798b3da", func := "loop.example/queryoptimizer/laws.FnExactClosureOf", spec := "fnExactClosureOf", apart := false }
def FnExactClosureOfSaid : Prop := fnExactClosureOfRow.holds Try.pinned (OpenSpec.ofChange fnExactClosureOfSpec)

/-- ITS FALSE NEIGHBOUR: 'it returns false'. Refute it at one input. -/
def fnExactClosureOfWrong : ChangeSpec := { name := "fnExactClosureOf", fn := fun _ => fun
  | [d1, d2, d3] => { results := [.lit (.bool false)], args := [d1, d2, d3] }
  | _ => none }
def FnExactClosureOfWrongFalsely : Prop := fnExactClosureOfRow.holds Try.pinned (OpenSpec.ofChange fnExactClosureOfWrong)

/-- 'laws.FnExactImplies': WHATEVER THE INPUT: true; the input reads as it did. -/
def fnExactImpliesSpec : ChangeSpec := { name := "fnExactImplies", fn := fun _ => fun
  | [d1, d2, d3] => { results := [.lit (.bool true)], args := [d1, d2, d3] }
  | _ => none }
def fnExactImpliesRow : OpenClaim := { program := "ytabbcepdinplfaa", sum := "c5905ebfd9cf84856e9f320dc3bb15c67eb4cab66016fad363c199029798b3da", func := "loop.example/queryoptimizer/laws.FnExactImplies", spec := "fnExactImplies", apart := false }
def FnExactImpliesSaid : Prop := fnExactImpliesRow.holds Try.pinned (OpenSpec.ofChange fnExactImpliesSpec)

/-- ITS FALSE NEIGHBOUR: 'it returns false'. Refute it at one input. -/
def fnExactImpliesWrong : ChangeSpec := { name := "fnExactImplies", fn := fun _ => fun
  | [d1, d2, d3] => { results := [.lit (.bool false)], args := [d1, d2, d3] }
  | _ => none }
def FnExactImpliesWrongFalsely : Prop := fnExactImpliesRow.holds Try.pinned (OpenSpec.ofChange fnExactImpliesWrong)

/-- 'laws.FnExactCheckDerivation': WHATEVER THE INPUT: true; the input reads as it did. -/
def fnExactCheckDerivationSpec : ChangeSpec := { name := "fnExactCheckDerivation", fn := fun _ => fun
  | [d1, d2, d3, d4] => { results := [.lit (.bool true)], args := [d1, d2, d3, d4] }
  | _ => none }
def fnExactCheckDerivationRow : OpenClaim := { program := "ytabbcepdinplfaa", sum := "c5905ebfd9cf84856e9f320dc3bb15c67eb4cab66016fad363c199029798b3da", func := "loop.example/queryoptimizer/laws.FnExactCheckDerivation", spec := "fnExactCheckDerivation", apart := false }
def FnExactCheckDerivationSaid : Prop := fnExactCheckDerivationRow.holds Try.pinned (OpenSpec.ofChange fnExactCheckDerivationSpec)

/-- ITS FALSE NEIGHBOUR: 'it returns false'. Refute it at one input. -/
def fnExactCheckDerivationWrong : ChangeSpec := { name := "fnExactCheckDerivation", fn := fun _ => fun
  | [d1, d2, d3, d4] => { results := [.lit (.bool false)], args := [d1, d2, d3, d4] }
  | _ => none }
def FnExactCheckDerivationWrongFalsely : Prop := fnExactCheckDerivationRow.holds Try.pinned (OpenSpec.ofChange fnExactCheckDerivationWrong)

/-- 'laws.FnClosureOf': WHATEVER THE INPUT: true; the input reads as it did. -/
def fnClosureOfSpec : ChangeSpec := { name := "fnClosureOf", fn := fun _ => fun
  | [d1, d2] => { results := [.lit (.bool true)], args := [d1, d2] }
  | _ => none }
def fnClosureOfRow : OpenClaim := { program := "ytabbcepdinplfaa", sum := "c5905ebfd9cf84856e9f320dc3bb15c67eb4cab66016fad363c199029798b3da", func := "loop.example/queryoptimizer/laws.FnClosureOf", spec := "fnClosureOf", apart := false }
def FnClosureOfSaid : Prop := fnClosureOfRow.holds Try.pinned (OpenSpec.ofChange fnClosureOfSpec)

/-- ITS FALSE NEIGHBOUR: 'it returns false'. Refute it at one input. -/
def fnClosureOfWrong : ChangeSpec := { name := "fnClosureOf", fn := fun _ => fun
  | [d1, d2] => { results := [.lit (.bool false)], args := [d1, d2] }
  | _ => none }
def FnClosureOfWrongFalsely : Prop := fnClosureOfRow.holds Try.pinned (OpenSpec.ofChange fnClosureOfWrong)

/-- 'laws.FnImplies': WHATEVER THE INPUT: true; the input reads as it did. -/
def fnImpliesSpec : ChangeSpec := { name := "fnImplies", fn := fun _ => fun
  | [d] => { results := [.lit (.bool true)], args := [d] }
  | _ => none }
def fnImpliesRow : OpenClaim := { program := "ytabbcepdinplfaa", sum := "c5905ebfd9cf84856e9f320dc3bb15c67eb4cab66016fad363c199029798b3da", func := "loop.example/queryoptimizer/laws.FnImplies", spec := "fnImplies", apart := false }
def FnImpliesSaid : Prop := fnImpliesRow.holds Try.pinned (OpenSpec.ofChange fnImpliesSpec)

/-- ITS FALSE NEIGHBOUR: 'it returns false'. Refute it at one input. -/
def fnImpliesWrong : ChangeSpec := { name := "fnImplies", fn := fun _ => fun
  | [d] => { results := [.lit (.bool false)], args := [d] }
  | _ => none }
def FnImpliesWrongFalsely : Prop := fnImpliesRow.holds Try.pinned (OpenSpec.ofChange fnImpliesWrong)

/-- 'laws.FnExactDerivation': WHATEVER THE INPUT: true; the input reads as it did. -/
def fnExactDerivationSpec : ChangeSpec := { name := "fnExactDerivation", fn := fun _ => fun
  | [d1, d2, d3] => { results := [.lit (.bool true)], args := [d1, d2, d3] }
  | _ => none }
def fnExactDerivationRow : OpenClaim := { program := "ytabbcepdinplfaa", sum := "c5905ebfd9cf84856e9f320dc3bb15c67eb4cab66016fad363c199029798b3da", func := "loop.example/queryoptimizer/laws.FnExactDerivation", spec := "fnExactDerivation", apart := false }
def FnExactDerivationSaid : Prop := fnExactDerivationRow.holds Try.pinned (OpenSpec.ofChange fnExactDerivationSpec)

/-- ITS FALSE NEIGHBOUR: 'it returns false'. Refute it at one input. -/
def fnExactDerivationWrong : ChangeSpec := { name := "fnExactDerivation", fn := fun _ => fun
  | [d1, d2, d3] => { results := [.lit (.bool false)], args := [d1, d2, d3] }
  | _ => none }
def FnExactDerivationWrongFalsely : Prop := fnExactDerivationRow.holds Try.pinned (OpenSpec.ofChange fnExactDerivationWrong)

/-- 'laws.FnDerivation': WHATEVER THE INPUT: true; the input reads as it did. -/
def fnDerivationSpec : ChangeSpec := { name := "fnDerivation", fn := fun _ => fun
  | [d] => { results := [.lit (.bool true)], args := [d] }
  | _ => none }
def fnDerivationRow : OpenClaim := { program := "ytabbcepdinplfaa", sum := "c5905ebfd9cf84856e9f320dc3bb15c67eb4cab66016fad363c199029798b3da", func := "loop.example/queryoptimizer/laws.FnDerivation", spec := "fnDerivation", apart := false }
def FnDerivationSaid : Prop := fnDerivationRow.holds Try.pinned (OpenSpec.ofChange fnDerivationSpec)

/-- ITS FALSE NEIGHBOUR: 'it returns false'. Refute it at one input. -/
def fnDerivationWrong : ChangeSpec := { name := "fnDerivation", fn := fun _ => fun
  | [d] => { results := [.lit (.bool false)], args := [d] }
  | _ => none }
def FnDerivationWrongFalsely : Prop := fnDerivationRow.holds Try.pinned (OpenSpec.ofChange fnDerivationWrong)

/-- 'laws.FnCheckDerivation': WHATEVER THE INPUT: true; the input reads as it did. -/
def fnCheckDerivationSpec : ChangeSpec := { name := "fnCheckDerivation", fn := fun _ => fun
  | [d] => { results := [.lit (.bool true)], args := [d] }
  | _ => none }
def fnCheckDerivationRow : OpenClaim := { program := "ytabbcepdinplfaa", sum := "c5905ebfd9cf84856e9f320dc3bb15c67eb4cab66016fad363c199029798b3da", func := "loop.example/queryoptimizer/laws.FnCheckDerivation", spec := "fnCheckDerivation", apart := false }
def FnCheckDerivationSaid : Prop := fnCheckDerivationRow.holds Try.pinned (OpenSpec.ofChange fnCheckDerivationSpec)

/-- ITS FALSE NEIGHBOUR: 'it returns false'. Refute it at one input. -/
def fnCheckDerivationWrong : ChangeSpec := { name := "fnCheckDerivation", fn := fun _ => fun
  | [d] => { results := [.lit (.bool false)], args := [d] }
  | _ => none }
def FnCheckDerivationWrongFalsely : Prop := fnCheckDerivationRow.holds Try.pinned (OpenSpec.ofChange fnCheckDerivationWrong)

/- THE SECOND FORM. 'bulk': how many values and letters a reading holds, each counted each time it is reached (what is shared counts as often as it is met; a slice's spare places count too). A statement '..UptoSaid' is the law's where the arguments, and the package variables that the reading takes, are together of bulk at most 1048576: NARROWER than '..Said'. Prove '..Said' where nothing that the law and all that it calls make is longer than what came in: it says more and counts as full. Else prove '..UptoSaid'. A law counts once. -/
mutual
def uptoBulk {H : Type} : DataW H → Nat
  | .lit (.string bytes) => bytes.length + 1
  | .lit _ => 1
  | .nil => 1
  | .ptr d => uptoBulk d + 1
  | .slice elems spare => uptoBulkAll elems + uptoBulkAll spare + 1
  | .agg parts => uptoBulkAll parts + 1
  | .iface _ d => uptoBulk d + 1
  | .map entries => uptoBulkEntries entries + 1
  | .held _ => 1
def uptoBulkAll {H : Type} : List (DataW H) → Nat
  | [] => 0
  | d :: r => uptoBulk d + uptoBulkAll r
def uptoBulkEntries {H : Type} : List (Lit × DataW H) → Nat
  | [] => 0
  | x :: r => uptoBulkEntry x + uptoBulkEntries r
def uptoBulkEntry {H : Type} : Lit × DataW H → Nat
  | (.string bytes, d) => bytes.length + uptoBulk d + 1
  | (_, d) => uptoBulk d + 1
 end
def uptoSmall : (H : Type) → List (DataW H) → Bool := fun _ ds => decide (uptoBulkAll ds ≤ 1048576)
def OpenSpec.upto (s : _root_.Go.ChangeSpec) : _root_.Go.OpenSpec := { _root_.Go.OpenSpec.ofChange s with cond := some uptoSmall }

/-- 'laws.FnExactConstants', WHERE WHAT IT READS IS OF BULK AT MOST 1048576: true; the input reads as it did. -/
def fnExactConstantsUptoRow : OpenClaim := { program := "ytabbcepdinplfaa", sum := "c5905ebfd9cf84856e9f320dc3bb15c67eb4cab66016fad363c199029798b3da", func := "loop.example/queryoptimizer/laws.FnExactConstants", spec := "fnExactConstants", apart := false, narrowed := true }
def FnExactConstantsUptoSaid : Prop := fnExactConstantsUptoRow.holds Try.pinned (OpenSpec.upto fnExactConstantsSpec)

/-- 'laws.FnExactValidValue', WHERE WHAT IT READS IS OF BULK AT MOST 1048576: true; the input reads as it did. -/
def fnExactValidValueUptoRow : OpenClaim := { program := "ytabbcepdinplfaa", sum := "c5905ebfd9cf84856e9f320dc3bb15c67eb4cab66016fad363c199029798b3da", func := "loop.example/queryoptimizer/laws.FnExactValidValue", spec := "fnExactValidValue", apart := false, narrowed := true }
def FnExactValidValueUptoSaid : Prop := fnExactValidValueUptoRow.holds Try.pinned (OpenSpec.upto fnExactValidValueSpec)

/-- 'laws.FnExactCompareValues', WHERE WHAT IT READS IS OF BULK AT MOST 1048576: true; the input reads as it did. -/
def fnExactCompareValuesUptoRow : OpenClaim := { program := "ytabbcepdinplfaa", sum := "c5905ebfd9cf84856e9f320dc3bb15c67eb4cab66016fad363c199029798b3da", func := "loop.example/queryoptimizer/laws.FnExactCompareValues", spec := "fnExactCompareValues", apart := false, narrowed := true }
def FnExactCompareValuesUptoSaid : Prop := fnExactCompareValuesUptoRow.holds Try.pinned (OpenSpec.upto fnExactCompareValuesSpec)

/-- 'laws.FnExactValidDependencies', WHERE WHAT IT READS IS OF BULK AT MOST 1048576: true; the input reads as it did. -/
def fnExactValidDependenciesUptoRow : OpenClaim := { program := "ytabbcepdinplfaa", sum := "c5905ebfd9cf84856e9f320dc3bb15c67eb4cab66016fad363c199029798b3da", func := "loop.example/queryoptimizer/laws.FnExactValidDependencies", spec := "fnExactValidDependencies", apart := false, narrowed := true }
def FnExactValidDependenciesUptoSaid : Prop := fnExactValidDependenciesUptoRow.holds Try.pinned (OpenSpec.upto fnExactValidDependenciesSpec)

/-- 'laws.FnExactValidStats', WHERE WHAT IT READS IS OF BULK AT MOST 1048576: true; the input reads as it did. -/
def fnExactValidStatsUptoRow : OpenClaim := { program := "ytabbcepdinplfaa", sum := "c5905ebfd9cf84856e9f320dc3bb15c67eb4cab66016fad363c199029798b3da", func := "loop.example/queryoptimizer/laws.FnExactValidStats", spec := "fnExactValidStats", apart := false, narrowed := true }
def FnExactValidStatsUptoSaid : Prop := fnExactValidStatsUptoRow.holds Try.pinned (OpenSpec.upto fnExactValidStatsSpec)

/-- 'laws.FnValueOrder', WHERE WHAT IT READS IS OF BULK AT MOST 1048576: true; the input reads as it did. -/
def fnValueOrderUptoRow : OpenClaim := { program := "ytabbcepdinplfaa", sum := "c5905ebfd9cf84856e9f320dc3bb15c67eb4cab66016fad363c199029798b3da", func := "loop.example/queryoptimizer/laws.FnValueOrder", spec := "fnValueOrder", apart := false, narrowed := true }
def FnValueOrderUptoSaid : Prop := fnValueOrderUptoRow.holds Try.pinned (OpenSpec.upto fnValueOrderSpec)

/-- 'laws.FnExactClosureOf', WHERE WHAT IT READS IS OF BULK AT MOST 1048576: true; the input reads as it did. -/
def fnExactClosureOfUptoRow : OpenClaim := { program := "ytabbcepdinplfaa", sum := "c5905ebfd9cf84856e9f320dc3bb15c67eb4cab66016fad363c199029798b3da", func := "loop.example/queryoptimizer/laws.FnExactClosureOf", spec := "fnExactClosureOf", apart := false, narrowed := true }
def FnExactClosureOfUptoSaid : Prop := fnExactClosureOfUptoRow.holds Try.pinned (OpenSpec.upto fnExactClosureOfSpec)

/-- 'laws.FnExactImplies', WHERE WHAT IT READS IS OF BULK AT MOST 1048576: true; the input reads as it did. -/
def fnExactImpliesUptoRow : OpenClaim := { program := "ytabbcepdinplfaa", sum := "c5905ebfd9cf84856e9f320dc3bb15c67eb4cab66016fad363c199029798b3da", func := "loop.example/queryoptimizer/laws.FnExactImplies", spec := "fnExactImplies", apart := false, narrowed := true }
def FnExactImpliesUptoSaid : Prop := fnExactImpliesUptoRow.holds Try.pinned (OpenSpec.upto fnExactImpliesSpec)

/-- 'laws.FnExactCheckDerivation', WHERE WHAT IT READS IS OF BULK AT MOST 1048576: true; the input reads as it did. -/
def fnExactCheckDerivationUptoRow : OpenClaim := { program := "ytabbcepdinplfaa", sum := "c5905ebfd9cf84856e9f320dc3bb15c67eb4cab66016fad363c199029798b3da", func := "loop.example/queryoptimizer/laws.FnExactCheckDerivation", spec := "fnExactCheckDerivation", apart := false, narrowed := true }
def FnExactCheckDerivationUptoSaid : Prop := fnExactCheckDerivationUptoRow.holds Try.pinned (OpenSpec.upto fnExactCheckDerivationSpec)

/-- 'laws.FnClosureOf', WHERE WHAT IT READS IS OF BULK AT MOST 1048576: true; the input reads as it did. -/
def fnClosureOfUptoRow : OpenClaim := { program := "ytabbcepdinplfaa", sum := "c5905ebfd9cf84856e9f320dc3bb15c67eb4cab66016fad363c199029798b3da", func := "loop.example/queryoptimizer/laws.FnClosureOf", spec := "fnClosureOf", apart := false, narrowed := true }
def FnClosureOfUptoSaid : Prop := fnClosureOfUptoRow.holds Try.pinned (OpenSpec.upto fnClosureOfSpec)

/-- 'laws.FnImplies', WHERE WHAT IT READS IS OF BULK AT MOST 1048576: true; the input reads as it did. -/
def fnImpliesUptoRow : OpenClaim := { program := "ytabbcepdinplfaa", sum := "c5905ebfd9cf84856e9f320dc3bb15c67eb4cab66016fad363c199029798b3da", func := "loop.example/queryoptimizer/laws.FnImplies", spec := "fnImplies", apart := false, narrowed := true }
def FnImpliesUptoSaid : Prop := fnImpliesUptoRow.holds Try.pinned (OpenSpec.upto fnImpliesSpec)

/-- 'laws.FnExactDerivation', WHERE WHAT IT READS IS OF BULK AT MOST 1048576: true; the input reads as it did. -/
def fnExactDerivationUptoRow : OpenClaim := { program := "ytabbcepdinplfaa", sum := "c5905ebfd9cf84856e9f320dc3bb15c67eb4cab66016fad363c199029798b3da", func := "loop.example/queryoptimizer/laws.FnExactDerivation", spec := "fnExactDerivation", apart := false, narrowed := true }
def FnExactDerivationUptoSaid : Prop := fnExactDerivationUptoRow.holds Try.pinned (OpenSpec.upto fnExactDerivationSpec)

/-- 'laws.FnDerivation', WHERE WHAT IT READS IS OF BULK AT MOST 1048576: true; the input reads as it did. -/
def fnDerivationUptoRow : OpenClaim := { program := "ytabbcepdinplfaa", sum := "c5905ebfd9cf84856e9f320dc3bb15c67eb4cab66016fad363c199029798b3da", func := "loop.example/queryoptimizer/laws.FnDerivation", spec := "fnDerivation", apart := false, narrowed := true }
def FnDerivationUptoSaid : Prop := fnDerivationUptoRow.holds Try.pinned (OpenSpec.upto fnDerivationSpec)

/-- 'laws.FnCheckDerivation', WHERE WHAT IT READS IS OF BULK AT MOST 1048576: true; the input reads as it did. -/
def fnCheckDerivationUptoRow : OpenClaim := { program := "ytabbcepdinplfaa", sum := "c5905ebfd9cf84856e9f320dc3bb15c67eb4cab66016fad363c199029798b3da", func := "loop.example/queryoptimizer/laws.FnCheckDerivation", spec := "fnCheckDerivation", apart := false, narrowed := true }
def FnCheckDerivationUptoSaid : Prop := fnCheckDerivationUptoRow.holds Try.pinned (OpenSpec.upto fnCheckDerivationSpec)

end Rows
end Go.Proofs.Ytabbcepdinplfaa
