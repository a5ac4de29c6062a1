/-
  NARROWER THAN 'FOR EVERY INPUT', by the rows' own cells (each row's printed sentence says how): FnExactSelectivity: loops · FnExactColumnsOf: loops · FnExactConjuncts: loops · FnExactConjoin: loops.
  DERIVED. THE GIVEN ROWS OF THIS SEAT. 12 by the template 'for every input the law returns true; each argument reads behind the call as it read before'; 0 by the template 'total and deterministic' (their statements: YtkkmfmeocigijaaTotals.lean).
  GIVEN WITH THE SEED: the statements are not yours to turn. If you find one false, say at which input.
  Laid BY PROGRAM, IN A SANDBOX (cutbox-rows.mjs): the forced cells as the released guide's own fill.sh prints them over the translation 957aa897be8f3b8c… (all of the seat's roots in one cut). By AI agents, Wed Nov 11 2026. No macro, syntax, notation, axiom, sorry.
-/
import Derived.Test.YtkkmfmeocigijaaChecked
import GoSem.Claim
import GoSem.ClaimJoined
import GoSem.ClaimMapViews
import Derived.JoinedTies
import Derived.KernelRfl
namespace Go.Proofs.Ytkkmfmeocigijaa
/- THE CELL 'sum', in the pinned program and in every row, IS THE sha256 OF THE DUMP (.gsa) THAT YtkkmfmeocigijaaProg.lean LOADS. Nothing in Lean hashes anything: it is a label: what it is worth is what the hold of that sum in a sandbox is worth. -/
noncomputable def Try.pinned : Pinned := { name := "ytkkmfmeocigijaa", sum := "957aa897be8f3b8cbd4a360e7c22f65cc275ed31b3adac30a52c8d4a2dc99e53", checked := Try.checked }
namespace Rows
def none {H : Type} : Left H := { results := [], args := [] }

/-- 'laws.FnExprSize': WHATEVER THE INPUT: true; the input reads as it did. -/
def fnExprSizeSpec : ChangeSpec := { name := "fnExprSize", fn := fun _ => fun
  | [d] => { results := [.lit (.bool true)], args := [d] }
  | _ => none }
def fnExprSizeRow : OpenClaim := { program := "ytkkmfmeocigijaa", sum := "957aa897be8f3b8cbd4a360e7c22f65cc275ed31b3adac30a52c8d4a2dc99e53", func := "loop.example/queryoptimizer/laws.FnExprSize", spec := "fnExprSize", recurses := true, apart := false }
def FnExprSizeSaid : Prop := fnExprSizeRow.holds Try.pinned (OpenSpec.ofChange fnExprSizeSpec)

/-- ITS FALSE NEIGHBOUR: 'it returns false'. Refute it at one input. -/
def fnExprSizeWrong : ChangeSpec := { name := "fnExprSize", fn := fun _ => fun
  | [d] => { results := [.lit (.bool false)], args := [d] }
  | _ => none }
def FnExprSizeWrongFalsely : Prop := fnExprSizeRow.holds Try.pinned (OpenSpec.ofChange fnExprSizeWrong)

/-- 'laws.FnNullPropagates': WHATEVER THE INPUT: true; the input reads as it did. -/
def fnNullPropagatesSpec : ChangeSpec := { name := "fnNullPropagates", fn := fun _ => fun
  | [d] => { results := [.lit (.bool true)], args := [d] }
  | _ => none }
def fnNullPropagatesRow : OpenClaim := { program := "ytkkmfmeocigijaa", sum := "957aa897be8f3b8cbd4a360e7c22f65cc275ed31b3adac30a52c8d4a2dc99e53", func := "loop.example/queryoptimizer/laws.FnNullPropagates", spec := "fnNullPropagates", recurses := true, apart := false }
def FnNullPropagatesSaid : Prop := fnNullPropagatesRow.holds Try.pinned (OpenSpec.ofChange fnNullPropagatesSpec)

/-- ITS FALSE NEIGHBOUR: 'it returns false'. Refute it at one input. -/
def fnNullPropagatesWrong : ChangeSpec := { name := "fnNullPropagates", fn := fun _ => fun
  | [d] => { results := [.lit (.bool false)], args := [d] }
  | _ => none }
def FnNullPropagatesWrongFalsely : Prop := fnNullPropagatesRow.holds Try.pinned (OpenSpec.ofChange fnNullPropagatesWrong)

/-- 'laws.FnNullTest': WHATEVER THE INPUT: true; the input reads as it did. -/
def fnNullTestSpec : ChangeSpec := { name := "fnNullTest", fn := fun _ => fun
  | [d] => { results := [.lit (.bool true)], args := [d] }
  | _ => none }
def fnNullTestRow : OpenClaim := { program := "ytkkmfmeocigijaa", sum := "957aa897be8f3b8cbd4a360e7c22f65cc275ed31b3adac30a52c8d4a2dc99e53", func := "loop.example/queryoptimizer/laws.FnNullTest", spec := "fnNullTest", recurses := true, apart := false }
def FnNullTestSaid : Prop := fnNullTestRow.holds Try.pinned (OpenSpec.ofChange fnNullTestSpec)

/-- ITS FALSE NEIGHBOUR: 'it returns false'. Refute it at one input. -/
def fnNullTestWrong : ChangeSpec := { name := "fnNullTest", fn := fun _ => fun
  | [d] => { results := [.lit (.bool false)], args := [d] }
  | _ => none }
def FnNullTestWrongFalsely : Prop := fnNullTestRow.holds Try.pinned (OpenSpec.ofChange fnNullTestWrong)

/-- 'laws.FnCommute': WHATEVER THE INPUT: true; the input reads as it did. -/
def fnCommuteSpec : ChangeSpec := { name := "fnCommute", fn := fun _ => fun
  | [d] => { results := [.lit (.bool true)], args := [d] }
  | _ => none }
def fnCommuteRow : OpenClaim := { program := "ytkkmfmeocigijaa", sum := "957aa897be8f3b8cbd4a360e7c22f65cc275ed31b3adac30a52c8d4a2dc99e53", func := "loop.example/queryoptimizer/laws.FnCommute", spec := "fnCommute", recurses := true, apart := false }
def FnCommuteSaid : Prop := fnCommuteRow.holds Try.pinned (OpenSpec.ofChange fnCommuteSpec)

/-- ITS FALSE NEIGHBOUR: 'it returns false'. Refute it at one input. -/
def fnCommuteWrong : ChangeSpec := { name := "fnCommute", fn := fun _ => fun
  | [d] => { results := [.lit (.bool false)], args := [d] }
  | _ => none }
def FnCommuteWrongFalsely : Prop := fnCommuteRow.holds Try.pinned (OpenSpec.ofChange fnCommuteWrong)

/-- 'laws.FnEvalRange': WHATEVER THE INPUT: true; the input reads as it did. -/
def fnEvalRangeSpec : ChangeSpec := { name := "fnEvalRange", fn := fun _ => fun
  | [d] => { results := [.lit (.bool true)], args := [d] }
  | _ => none }
def fnEvalRangeRow : OpenClaim := { program := "ytkkmfmeocigijaa", sum := "957aa897be8f3b8cbd4a360e7c22f65cc275ed31b3adac30a52c8d4a2dc99e53", func := "loop.example/queryoptimizer/laws.FnEvalRange", spec := "fnEvalRange", recurses := true, apart := false }
def FnEvalRangeSaid : Prop := fnEvalRangeRow.holds Try.pinned (OpenSpec.ofChange fnEvalRangeSpec)

/-- ITS FALSE NEIGHBOUR: 'it returns false'. Refute it at one input. -/
def fnEvalRangeWrong : ChangeSpec := { name := "fnEvalRange", fn := fun _ => fun
  | [d] => { results := [.lit (.bool false)], args := [d] }
  | _ => none }
def FnEvalRangeWrongFalsely : Prop := fnEvalRangeRow.holds Try.pinned (OpenSpec.ofChange fnEvalRangeWrong)

/-- 'laws.FnPlusMinus': WHATEVER THE INPUT: true; the input reads as it did. -/
def fnPlusMinusSpec : ChangeSpec := { name := "fnPlusMinus", fn := fun _ => fun
  | [d] => { results := [.lit (.bool true)], args := [d] }
  | _ => none }
def fnPlusMinusRow : OpenClaim := { program := "ytkkmfmeocigijaa", sum := "957aa897be8f3b8cbd4a360e7c22f65cc275ed31b3adac30a52c8d4a2dc99e53", func := "loop.example/queryoptimizer/laws.FnPlusMinus", spec := "fnPlusMinus", recurses := true, apart := false }
def FnPlusMinusSaid : Prop := fnPlusMinusRow.holds Try.pinned (OpenSpec.ofChange fnPlusMinusSpec)

/-- ITS FALSE NEIGHBOUR: 'it returns false'. Refute it at one input. -/
def fnPlusMinusWrong : ChangeSpec := { name := "fnPlusMinus", fn := fun _ => fun
  | [d] => { results := [.lit (.bool false)], args := [d] }
  | _ => none }
def FnPlusMinusWrongFalsely : Prop := fnPlusMinusRow.holds Try.pinned (OpenSpec.ofChange fnPlusMinusWrong)

/-- 'laws.FnDeMorgan': WHATEVER THE INPUT: true; the input reads as it did. -/
def fnDeMorganSpec : ChangeSpec := { name := "fnDeMorgan", fn := fun _ => fun
  | [d] => { results := [.lit (.bool true)], args := [d] }
  | _ => none }
def fnDeMorganRow : OpenClaim := { program := "ytkkmfmeocigijaa", sum := "957aa897be8f3b8cbd4a360e7c22f65cc275ed31b3adac30a52c8d4a2dc99e53", func := "loop.example/queryoptimizer/laws.FnDeMorgan", spec := "fnDeMorgan", recurses := true, apart := false }
def FnDeMorganSaid : Prop := fnDeMorganRow.holds Try.pinned (OpenSpec.ofChange fnDeMorganSpec)

/-- ITS FALSE NEIGHBOUR: 'it returns false'. Refute it at one input. -/
def fnDeMorganWrong : ChangeSpec := { name := "fnDeMorgan", fn := fun _ => fun
  | [d] => { results := [.lit (.bool false)], args := [d] }
  | _ => none }
def FnDeMorganWrongFalsely : Prop := fnDeMorganRow.holds Try.pinned (OpenSpec.ofChange fnDeMorganWrong)

/-- 'laws.FnLessThan': WHATEVER THE INPUT: true; the input reads as it did. -/
def fnLessThanSpec : ChangeSpec := { name := "fnLessThan", fn := fun _ => fun
  | [d] => { results := [.lit (.bool true)], args := [d] }
  | _ => none }
def fnLessThanRow : OpenClaim := { program := "ytkkmfmeocigijaa", sum := "957aa897be8f3b8cbd4a360e7c22f65cc275ed31b3adac30a52c8d4a2dc99e53", func := "loop.example/queryoptimizer/laws.FnLessThan", spec := "fnLessThan", recurses := true, apart := false }
def FnLessThanSaid : Prop := fnLessThanRow.holds Try.pinned (OpenSpec.ofChange fnLessThanSpec)

/-- ITS FALSE NEIGHBOUR: 'it returns false'. Refute it at one input. -/
def fnLessThanWrong : ChangeSpec := { name := "fnLessThan", fn := fun _ => fun
  | [d] => { results := [.lit (.bool false)], args := [d] }
  | _ => none }
def FnLessThanWrongFalsely : Prop := fnLessThanRow.holds Try.pinned (OpenSpec.ofChange fnLessThanWrong)

/-- 'laws.FnExactSelectivity': WHATEVER THE INPUT: true; the input reads as it did. -/
def fnExactSelectivitySpec : ChangeSpec := { name := "fnExactSelectivity", fn := fun _ => fun
  | [d1, d2] => { results := [.lit (.bool true)], args := [d1, d2] }
  | _ => none }
def fnExactSelectivityRow : OpenClaim := { program := "ytkkmfmeocigijaa", sum := "957aa897be8f3b8cbd4a360e7c22f65cc275ed31b3adac30a52c8d4a2dc99e53", func := "loop.example/queryoptimizer/laws.FnExactSelectivity", spec := "fnExactSelectivity", recurses := true, loops := true, apart := false }
def FnExactSelectivitySaid : Prop := fnExactSelectivityRow.holds Try.pinned (OpenSpec.ofChange fnExactSelectivitySpec)

/-- ITS FALSE NEIGHBOUR: 'it returns false'. Refute it at one input. -/
def fnExactSelectivityWrong : ChangeSpec := { name := "fnExactSelectivity", fn := fun _ => fun
  | [d1, d2] => { results := [.lit (.bool false)], args := [d1, d2] }
  | _ => none }
def FnExactSelectivityWrongFalsely : Prop := fnExactSelectivityRow.holds Try.pinned (OpenSpec.ofChange fnExactSelectivityWrong)

/-- 'laws.FnExactColumnsOf': WHATEVER THE INPUT: true; the input reads as it did. -/
def fnExactColumnsOfSpec : ChangeSpec := { name := "fnExactColumnsOf", fn := fun _ => fun
  | [d] => { results := [.lit (.bool true)], args := [d] }
  | _ => none }
def fnExactColumnsOfRow : OpenClaim := { program := "ytkkmfmeocigijaa", sum := "957aa897be8f3b8cbd4a360e7c22f65cc275ed31b3adac30a52c8d4a2dc99e53", func := "loop.example/queryoptimizer/laws.FnExactColumnsOf", spec := "fnExactColumnsOf", recurses := true, loops := true, apart := false }
def FnExactColumnsOfSaid : Prop := fnExactColumnsOfRow.holds Try.pinned (OpenSpec.ofChange fnExactColumnsOfSpec)

/-- ITS FALSE NEIGHBOUR: 'it returns false'. Refute it at one input. -/
def fnExactColumnsOfWrong : ChangeSpec := { name := "fnExactColumnsOf", fn := fun _ => fun
  | [d] => { results := [.lit (.bool false)], args := [d] }
  | _ => none }
def FnExactColumnsOfWrongFalsely : Prop := fnExactColumnsOfRow.holds Try.pinned (OpenSpec.ofChange fnExactColumnsOfWrong)

/-- 'laws.FnExactConjuncts': WHATEVER THE INPUT: true; the input reads as it did. -/
def fnExactConjunctsSpec : ChangeSpec := { name := "fnExactConjuncts", fn := fun _ => fun
  | [d] => { results := [.lit (.bool true)], args := [d] }
  | _ => none }
def fnExactConjunctsRow : OpenClaim := { program := "ytkkmfmeocigijaa", sum := "957aa897be8f3b8cbd4a360e7c22f65cc275ed31b3adac30a52c8d4a2dc99e53", func := "loop.example/queryoptimizer/laws.FnExactConjuncts", spec := "fnExactConjuncts", unfollowed := true, recurses := true, loops := true, apart := false }
def FnExactConjunctsSaid : Prop := fnExactConjunctsRow.holds Try.pinned (OpenSpec.ofChange fnExactConjunctsSpec)

/-- ITS FALSE NEIGHBOUR: 'it returns false'. Refute it at one input. -/
def fnExactConjunctsWrong : ChangeSpec := { name := "fnExactConjuncts", fn := fun _ => fun
  | [d] => { results := [.lit (.bool false)], args := [d] }
  | _ => none }
def FnExactConjunctsWrongFalsely : Prop := fnExactConjunctsRow.holds Try.pinned (OpenSpec.ofChange fnExactConjunctsWrong)

/-- 'laws.FnExactConjoin': WHATEVER THE INPUT: true; the input reads as it did. -/
def fnExactConjoinSpec : ChangeSpec := { name := "fnExactConjoin", fn := fun _ => fun
  | [d] => { results := [.lit (.bool true)], args := [d] }
  | _ => none }
def fnExactConjoinRow : OpenClaim := { program := "ytkkmfmeocigijaa", sum := "957aa897be8f3b8cbd4a360e7c22f65cc275ed31b3adac30a52c8d4a2dc99e53", func := "loop.example/queryoptimizer/laws.FnExactConjoin", spec := "fnExactConjoin", recurses := true, loops := true, apart := false }
def FnExactConjoinSaid : Prop := fnExactConjoinRow.holds Try.pinned (OpenSpec.ofChange fnExactConjoinSpec)

/-- ITS FALSE NEIGHBOUR: 'it returns false'. Refute it at one input. -/
def fnExactConjoinWrong : ChangeSpec := { name := "fnExactConjoin", fn := fun _ => fun
  | [d] => { results := [.lit (.bool false)], args := [d] }
  | _ => none }
def FnExactConjoinWrongFalsely : Prop := fnExactConjoinRow.holds Try.pinned (OpenSpec.ofChange fnExactConjoinWrong)

/- THE SECOND FORM. 'bulk': how many values and letters a reading holds, each counted each time it is reached (what is shared counts as often as it is met; a slice's spare places count too). A statement '..UptoSaid' is the law's where the arguments, and the package variables that the reading takes, are together of bulk at most 1048576: NARROWER than '..Said'. Prove '..Said' where nothing that the law and all that it calls make is longer than what came in: it says more and counts as full. Else prove '..UptoSaid'. A law counts once. -/
mutual
def uptoBulk {H : Type} : DataW H → Nat
  | .lit (.string bytes) => bytes.length + 1
  | .lit _ => 1
  | .nil => 1
  | .ptr d => uptoBulk d + 1
  | .slice elems spare => uptoBulkAll elems + uptoBulkAll spare + 1
  | .agg parts => uptoBulkAll parts + 1
  | .iface _ d => uptoBulk d + 1
  | .map entries => uptoBulkEntries entries + 1
  | .held _ => 1
def uptoBulkAll {H : Type} : List (DataW H) → Nat
  | [] => 0
  | d :: r => uptoBulk d + uptoBulkAll r
def uptoBulkEntries {H : Type} : List (Lit × DataW H) → Nat
  | [] => 0
  | x :: r => uptoBulkEntry x + uptoBulkEntries r
def uptoBulkEntry {H : Type} : Lit × DataW H → Nat
  | (.string bytes, d) => bytes.length + uptoBulk d + 1
  | (_, d) => uptoBulk d + 1
 end
def uptoSmall : (H : Type) → List (DataW H) → Bool := fun _ ds => decide (uptoBulkAll ds ≤ 1048576)
def OpenSpec.upto (s : _root_.Go.ChangeSpec) : _root_.Go.OpenSpec := { _root_.Go.OpenSpec.ofChange s with cond := some uptoSmall }

/-- 'laws.FnExprSize', WHERE WHAT IT READS IS OF BULK AT MOST 1048576: true; the input reads as it did. -/
def fnExprSizeUptoRow : OpenClaim := { program := "ytkkmfmeocigijaa", sum := "957aa897be8f3b8cbd4a360e7c22f65cc275ed31b3adac30a52c8d4a2dc99e53", func := "loop.example/queryoptimizer/laws.FnExprSize", spec := "fnExprSize", recurses := true, apart := false, narrowed := true }
def FnExprSizeUptoSaid : Prop := fnExprSizeUptoRow.holds Try.pinned (OpenSpec.upto fnExprSizeSpec)

/-- 'laws.FnNullPropagates', WHERE WHAT IT READS IS OF BULK AT MOST 1048576: true; the input reads as it did. -/
def fnNullPropagatesUptoRow : OpenClaim := { program := "ytkkmfmeocigijaa", sum := "957aa897be8f3b8cbd4a360e7c22f65cc275ed31b3adac30a52c8d4a2dc99e53", func := "loop.example/queryoptimizer/laws.FnNullPropagates", spec := "fnNullPropagates", recurses := true, apart := false, narrowed := true }
def FnNullPropagatesUptoSaid : Prop := fnNullPropagatesUptoRow.holds Try.pinned (OpenSpec.upto fnNullPropagatesSpec)

/-- 'laws.FnNullTest', WHERE WHAT IT READS IS OF BULK AT MOST 1048576: true; the input reads as it did. -/
def fnNullTestUptoRow : OpenClaim := { program := "ytkkmfmeocigijaa", sum := "957aa897be8f3b8cbd4a360e7c22f65cc275ed31b3adac30a52c8d4a2dc99e53", func := "loop.example/queryoptimizer/laws.FnNullTest", spec := "fnNullTest", recurses := true, apart := false, narrowed := true }
def FnNullTestUptoSaid : Prop := fnNullTestUptoRow.holds Try.pinned (OpenSpec.upto fnNullTestSpec)

/-- 'laws.FnCommute', WHERE WHAT IT READS IS OF BULK AT MOST 1048576: true; the input reads as it did. -/
def fnCommuteUptoRow : OpenClaim := { program := "ytkkmfmeocigijaa", sum := "957aa897be8f3b8cbd4a360e7c22f65cc275ed31b3adac30a52c8d4a2dc99e53", func := "loop.example/queryoptimizer/laws.FnCommute", spec := "fnCommute", recurses := true, apart := false, narrowed := true }
def FnCommuteUptoSaid : Prop := fnCommuteUptoRow.holds Try.pinned (OpenSpec.upto fnCommuteSpec)

/-- 'laws.FnEvalRange', WHERE WHAT IT READS IS OF BULK AT MOST 1048576: true; the input reads as it did. -/
def fnEvalRangeUptoRow : OpenClaim := { program := "ytkkmfmeocigijaa", sum := "957aa897be8f3b8cbd4a360e7c22f65cc275ed31b3adac30a52c8d4a2dc99e53", func := "loop.example/queryoptimizer/laws.FnEvalRange", spec := "fnEvalRange", recurses := true, apart := false, narrowed := true }
def FnEvalRangeUptoSaid : Prop := fnEvalRangeUptoRow.holds Try.pinned (OpenSpec.upto fnEvalRangeSpec)

/-- 'laws.FnPlusMinus', WHERE WHAT IT READS IS OF BULK AT MOST 1048576: true; the input reads as it did. -/
def fnPlusMinusUptoRow : OpenClaim := { program := "ytkkmfmeocigijaa", sum := "957aa897be8f3b8cbd4a360e7c22f65cc275ed31b3adac30a52c8d4a2dc99e53", func := "loop.example/queryoptimizer/laws.FnPlusMinus", spec := "fnPlusMinus", recurses := true, apart := false, narrowed := true }
def FnPlusMinusUptoSaid : Prop := fnPlusMinusUptoRow.holds Try.pinned (OpenSpec.upto fnPlusMinusSpec)

/-- 'laws.FnDeMorgan', WHERE WHAT IT READS IS OF BULK AT MOST 1048576: true; the input reads as it did. -/
def fnDeMorganUptoRow : OpenClaim := { program := "ytkkmfmeocigijaa", sum := "957aa897be8f3b8cbd4a360e7c22f65cc275ed31b3adac30a52c8d4a2dc99e53", func := "loop.example/queryoptimizer/laws.FnDeMorgan", spec := "fnDeMorgan", recurses := true, apart := false, narrowed := true }
def FnDeMorganUptoSaid : Prop := fnDeMorganUptoRow.holds Try.pinned (OpenSpec.upto fnDeMorganSpec)

/-- 'laws.FnLessThan', WHERE WHAT IT READS IS OF BULK AT MOST 1048576: true; the input reads as it did. -/
def fnLessThanUptoRow : OpenClaim := { program := "ytkkmfmeocigijaa", sum := "957aa897be8f3b8cbd4a360e7c22f65cc275ed31b3adac30a52c8d4a2dc99e53", func := "loop.example/queryoptimizer/laws.FnLessThan", spec := "fnLessThan", recurses := true, apart := false, narrowed := true }
def FnLessThanUptoSaid : Prop := fnLessThanUptoRow.holds Try.pinned (OpenSpec.upto fnLessThanSpec)

/-- 'laws.FnExactSelectivity', WHERE WHAT IT READS IS OF BULK AT MOST 1048576: true; the input reads as it did. -/
def fnExactSelectivityUptoRow : OpenClaim := { program := "ytkkmfmeocigijaa", sum := "957aa897be8f3b8cbd4a360e7c22f65cc275ed31b3adac30a52c8d4a2dc99e53", func := "loop.example/queryoptimizer/laws.FnExactSelectivity", spec := "fnExactSelectivity", recurses := true, loops := true, apart := false, narrowed := true }
def FnExactSelectivityUptoSaid : Prop := fnExactSelectivityUptoRow.holds Try.pinned (OpenSpec.upto fnExactSelectivitySpec)

/-- 'laws.FnExactColumnsOf', WHERE WHAT IT READS IS OF BULK AT MOST 1048576: true; the input reads as it did. -/
def fnExactColumnsOfUptoRow : OpenClaim := { program := "ytkkmfmeocigijaa", sum := "957aa897be8f3b8cbd4a360e7c22f65cc275ed31b3adac30a52c8d4a2dc99e53", func := "loop.example/queryoptimizer/laws.FnExactColumnsOf", spec := "fnExactColumnsOf", recurses := true, loops := true, apart := false, narrowed := true }
def FnExactColumnsOfUptoSaid : Prop := fnExactColumnsOfUptoRow.holds Try.pinned (OpenSpec.upto fnExactColumnsOfSpec)

/-- 'laws.FnExactConjuncts', WHERE WHAT IT READS IS OF BULK AT MOST 1048576: true; the input reads as it did. -/
def fnExactConjunctsUptoRow : OpenClaim := { program := "ytkkmfmeocigijaa", sum := "957aa897be8f3b8cbd4a360e7c22f65cc275ed31b3adac30a52c8d4a2dc99e53", func := "loop.example/queryoptimizer/laws.FnExactConjuncts", spec := "fnExactConjuncts", unfollowed := true, recurses := true, loops := true, apart := false, narrowed := true }
def FnExactConjunctsUptoSaid : Prop := fnExactConjunctsUptoRow.holds Try.pinned (OpenSpec.upto fnExactConjunctsSpec)

/-- 'laws.FnExactConjoin', WHERE WHAT IT READS IS OF BULK AT MOST 1048576: true; the input reads as it did. -/
def fnExactConjoinUptoRow : OpenClaim := { program := "ytkkmfmeocigijaa", sum := "957aa897be8f3b8cbd4a360e7c22f65cc275ed31b3adac30a52c8d4a2dc99e53", func := "loop.example/queryoptimizer/laws.FnExactConjoin", spec := "fnExactConjoin", recurses := true, loops := true, apart := false, narrowed := true }
def FnExactConjoinUptoSaid : Prop := fnExactConjoinUptoRow.holds Try.pinned (OpenSpec.upto fnExactConjoinSpec)

end Rows
end Go.Proofs.Ytkkmfmeocigijaa
