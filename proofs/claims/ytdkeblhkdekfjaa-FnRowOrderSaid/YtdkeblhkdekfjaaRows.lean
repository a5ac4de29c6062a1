/-
  NARROWER THAN 'FOR EVERY INPUT', by the rows' own cells (each row's printed sentence says how): FnExactLeavesOf: loops.
  DERIVED. THE GIVEN ROWS OF THIS SEAT. 11 by the template 'for every input the law returns true; each argument reads behind the call as it read before'; 0 by the template 'total and deterministic' (their statements: YtdkeblhkdekfjaaTotals.lean).
  GIVEN WITH THE SEED: the statements are not yours to turn. If you find one false, say at which input.
  Laid BY PROGRAM, IN A SANDBOX (cutbox-rows.mjs): the forced cells as the released guide's own fill.sh prints them over the translation be02381cbfbcc35c… (all of the seat's roots in one cut). By AI agents, Wed Nov 11 2026. No macro, syntax, notation, axiom, sorry.
-/
import Derived.Test.YtdkeblhkdekfjaaChecked
import GoSem.Claim
import GoSem.ClaimJoined
import GoSem.ClaimMapViews
import Derived.JoinedTies
import Derived.KernelRfl
namespace Go.Proofs.Ytdkeblhkdekfjaa
/- THE CELL 'sum', in the pinned program and in every row, IS THE sha256 OF THE DUMP (.gsa) THAT YtdkeblhkdekfjaaProg.lean LOADS. Nothing in Lean hashes anything: it is a label: what it is worth is what the hold of that sum in a sandbox is worth. -/
noncomputable def Try.pinned : Pinned := { name := "ytdkeblhkdekfjaa", sum := "be02381cbfbcc35c9c5d0197e657fa8355845f1c30f6a060a25f6480c2f62756", checked := Try.checked }
namespace Rows
def none {H : Type} : Left H := { results := [], args := [] }

/-- 'laws.FnExactValidStats': WHATEVER THE INPUT: true; the input reads as it did. -/
def fnExactValidStatsSpec : ChangeSpec := { name := "fnExactValidStats", fn := fun _ => fun
  | [d1, d2] => { results := [.lit (.bool true)], args := [d1, d2] }
  | _ => none }
def fnExactValidStatsRow : OpenClaim := { program := "ytdkeblhkdekfjaa", sum := "be02381cbfbcc35c9c5d0197e657fa8355845f1c30f6a060a25f6480c2f62756", func := "loop.example/queryoptimizer/laws.FnExactValidStats", spec := "fnExactValidStats", apart := false }
def FnExactValidStatsSaid : Prop := fnExactValidStatsRow.holds Try.pinned (OpenSpec.ofChange fnExactValidStatsSpec)

/-- ITS FALSE NEIGHBOUR: 'it returns false'. Refute it at one input. -/
def fnExactValidStatsWrong : ChangeSpec := { name := "fnExactValidStats", fn := fun _ => fun
  | [d1, d2] => { results := [.lit (.bool false)], args := [d1, d2] }
  | _ => none }
def FnExactValidStatsWrongFalsely : Prop := fnExactValidStatsRow.holds Try.pinned (OpenSpec.ofChange fnExactValidStatsWrong)

/-- 'laws.FnExactValidFacts': WHATEVER THE INPUT: true; the input reads as it did. -/
def fnExactValidFactsSpec : ChangeSpec := { name := "fnExactValidFacts", fn := fun _ => fun
  | [d] => { results := [.lit (.bool true)], args := [d] }
  | _ => none }
def fnExactValidFactsRow : OpenClaim := { program := "ytdkeblhkdekfjaa", sum := "be02381cbfbcc35c9c5d0197e657fa8355845f1c30f6a060a25f6480c2f62756", func := "loop.example/queryoptimizer/laws.FnExactValidFacts", spec := "fnExactValidFacts", apart := false }
def FnExactValidFactsSaid : Prop := fnExactValidFactsRow.holds Try.pinned (OpenSpec.ofChange fnExactValidFactsSpec)

/-- ITS FALSE NEIGHBOUR: 'it returns false'. Refute it at one input. -/
def fnExactValidFactsWrong : ChangeSpec := { name := "fnExactValidFacts", fn := fun _ => fun
  | [d] => { results := [.lit (.bool false)], args := [d] }
  | _ => none }
def FnExactValidFactsWrongFalsely : Prop := fnExactValidFactsRow.holds Try.pinned (OpenSpec.ofChange fnExactValidFactsWrong)

/-- 'laws.FnExactValidGraph': WHATEVER THE INPUT: true; the input reads as it did. -/
def fnExactValidGraphSpec : ChangeSpec := { name := "fnExactValidGraph", fn := fun _ => fun
  | [d] => { results := [.lit (.bool true)], args := [d] }
  | _ => none }
def fnExactValidGraphRow : OpenClaim := { program := "ytdkeblhkdekfjaa", sum := "be02381cbfbcc35c9c5d0197e657fa8355845f1c30f6a060a25f6480c2f62756", func := "loop.example/queryoptimizer/laws.FnExactValidGraph", spec := "fnExactValidGraph", apart := false }
def FnExactValidGraphSaid : Prop := fnExactValidGraphRow.holds Try.pinned (OpenSpec.ofChange fnExactValidGraphSpec)

/-- ITS FALSE NEIGHBOUR: 'it returns false'. Refute it at one input. -/
def fnExactValidGraphWrong : ChangeSpec := { name := "fnExactValidGraph", fn := fun _ => fun
  | [d] => { results := [.lit (.bool false)], args := [d] }
  | _ => none }
def FnExactValidGraphWrongFalsely : Prop := fnExactValidGraphRow.holds Try.pinned (OpenSpec.ofChange fnExactValidGraphWrong)

/-- 'laws.FnExactValidRule': WHATEVER THE INPUT: true; the input reads as it did. -/
def fnExactValidRuleSpec : ChangeSpec := { name := "fnExactValidRule", fn := fun _ => fun
  | [d] => { results := [.lit (.bool true)], args := [d] }
  | _ => none }
def fnExactValidRuleRow : OpenClaim := { program := "ytdkeblhkdekfjaa", sum := "be02381cbfbcc35c9c5d0197e657fa8355845f1c30f6a060a25f6480c2f62756", func := "loop.example/queryoptimizer/laws.FnExactValidRule", spec := "fnExactValidRule", apart := false }
def FnExactValidRuleSaid : Prop := fnExactValidRuleRow.holds Try.pinned (OpenSpec.ofChange fnExactValidRuleSpec)

/-- ITS FALSE NEIGHBOUR: 'it returns false'. Refute it at one input. -/
def fnExactValidRuleWrong : ChangeSpec := { name := "fnExactValidRule", fn := fun _ => fun
  | [d] => { results := [.lit (.bool false)], args := [d] }
  | _ => none }
def FnExactValidRuleWrongFalsely : Prop := fnExactValidRuleRow.holds Try.pinned (OpenSpec.ofChange fnExactValidRuleWrong)

/-- 'laws.FnExactCompareRows': WHATEVER THE INPUT: true; the input reads as it did. -/
def fnExactCompareRowsSpec : ChangeSpec := { name := "fnExactCompareRows", fn := fun _ => fun
  | [d1, d2] => { results := [.lit (.bool true)], args := [d1, d2] }
  | _ => none }
def fnExactCompareRowsRow : OpenClaim := { program := "ytdkeblhkdekfjaa", sum := "be02381cbfbcc35c9c5d0197e657fa8355845f1c30f6a060a25f6480c2f62756", func := "loop.example/queryoptimizer/laws.FnExactCompareRows", spec := "fnExactCompareRows", unfollowed := true, recurses := true, apart := false }
def FnExactCompareRowsSaid : Prop := fnExactCompareRowsRow.holds Try.pinned (OpenSpec.ofChange fnExactCompareRowsSpec)

/-- ITS FALSE NEIGHBOUR: 'it returns false'. Refute it at one input. -/
def fnExactCompareRowsWrong : ChangeSpec := { name := "fnExactCompareRows", fn := fun _ => fun
  | [d1, d2] => { results := [.lit (.bool false)], args := [d1, d2] }
  | _ => none }
def FnExactCompareRowsWrongFalsely : Prop := fnExactCompareRowsRow.holds Try.pinned (OpenSpec.ofChange fnExactCompareRowsWrong)

/-- 'laws.FnRowOrder': WHATEVER THE INPUT: true; the input reads as it did. -/
def fnRowOrderSpec : ChangeSpec := { name := "fnRowOrder", fn := fun _ => fun
  | [d] => { results := [.lit (.bool true)], args := [d] }
  | _ => none }
def fnRowOrderRow : OpenClaim := { program := "ytdkeblhkdekfjaa", sum := "be02381cbfbcc35c9c5d0197e657fa8355845f1c30f6a060a25f6480c2f62756", func := "loop.example/queryoptimizer/laws.FnRowOrder", spec := "fnRowOrder", unfollowed := true, recurses := true, apart := false }
def FnRowOrderSaid : Prop := fnRowOrderRow.holds Try.pinned (OpenSpec.ofChange fnRowOrderSpec)

/-- ITS FALSE NEIGHBOUR: 'it returns false'. Refute it at one input. -/
def fnRowOrderWrong : ChangeSpec := { name := "fnRowOrder", fn := fun _ => fun
  | [d] => { results := [.lit (.bool false)], args := [d] }
  | _ => none }
def FnRowOrderWrongFalsely : Prop := fnRowOrderRow.holds Try.pinned (OpenSpec.ofChange fnRowOrderWrong)

/-- 'laws.FnExactValidTable': WHATEVER THE INPUT: true; the input reads as it did. -/
def fnExactValidTableSpec : ChangeSpec := { name := "fnExactValidTable", fn := fun _ => fun
  | [d] => { results := [.lit (.bool true)], args := [d] }
  | _ => none }
def fnExactValidTableRow : OpenClaim := { program := "ytdkeblhkdekfjaa", sum := "be02381cbfbcc35c9c5d0197e657fa8355845f1c30f6a060a25f6480c2f62756", func := "loop.example/queryoptimizer/laws.FnExactValidTable", spec := "fnExactValidTable", unfollowed := true, recurses := true, apart := false }
def FnExactValidTableSaid : Prop := fnExactValidTableRow.holds Try.pinned (OpenSpec.ofChange fnExactValidTableSpec)

/-- ITS FALSE NEIGHBOUR: 'it returns false'. Refute it at one input. -/
def fnExactValidTableWrong : ChangeSpec := { name := "fnExactValidTable", fn := fun _ => fun
  | [d] => { results := [.lit (.bool false)], args := [d] }
  | _ => none }
def FnExactValidTableWrongFalsely : Prop := fnExactValidTableRow.holds Try.pinned (OpenSpec.ofChange fnExactValidTableWrong)

/-- 'laws.FnExactCountRow': WHATEVER THE INPUT: true; the input reads as it did. -/
def fnExactCountRowSpec : ChangeSpec := { name := "fnExactCountRow", fn := fun _ => fun
  | [d1, d2] => { results := [.lit (.bool true)], args := [d1, d2] }
  | _ => none }
def fnExactCountRowRow : OpenClaim := { program := "ytdkeblhkdekfjaa", sum := "be02381cbfbcc35c9c5d0197e657fa8355845f1c30f6a060a25f6480c2f62756", func := "loop.example/queryoptimizer/laws.FnExactCountRow", spec := "fnExactCountRow", unfollowed := true, recurses := true, apart := false }
def FnExactCountRowSaid : Prop := fnExactCountRowRow.holds Try.pinned (OpenSpec.ofChange fnExactCountRowSpec)

/-- ITS FALSE NEIGHBOUR: 'it returns false'. Refute it at one input. -/
def fnExactCountRowWrong : ChangeSpec := { name := "fnExactCountRow", fn := fun _ => fun
  | [d1, d2] => { results := [.lit (.bool false)], args := [d1, d2] }
  | _ => none }
def FnExactCountRowWrongFalsely : Prop := fnExactCountRowRow.holds Try.pinned (OpenSpec.ofChange fnExactCountRowWrong)

/-- 'laws.FnExactStatsOf': WHATEVER THE INPUT: true; the input reads as it did. -/
def fnExactStatsOfSpec : ChangeSpec := { name := "fnExactStatsOf", fn := fun _ => fun
  | [d] => { results := [.lit (.bool true)], args := [d] }
  | _ => none }
def fnExactStatsOfRow : OpenClaim := { program := "ytdkeblhkdekfjaa", sum := "be02381cbfbcc35c9c5d0197e657fa8355845f1c30f6a060a25f6480c2f62756", func := "loop.example/queryoptimizer/laws.FnExactStatsOf", spec := "fnExactStatsOf", unfollowed := true, recurses := true, apart := false }
def FnExactStatsOfSaid : Prop := fnExactStatsOfRow.holds Try.pinned (OpenSpec.ofChange fnExactStatsOfSpec)

/-- ITS FALSE NEIGHBOUR: 'it returns false'. Refute it at one input. -/
def fnExactStatsOfWrong : ChangeSpec := { name := "fnExactStatsOf", fn := fun _ => fun
  | [d] => { results := [.lit (.bool false)], args := [d] }
  | _ => none }
def FnExactStatsOfWrongFalsely : Prop := fnExactStatsOfRow.holds Try.pinned (OpenSpec.ofChange fnExactStatsOfWrong)

/-- 'laws.FnExactLeavesOf': WHATEVER THE INPUT: true; the input reads as it did. -/
def fnExactLeavesOfSpec : ChangeSpec := { name := "fnExactLeavesOf", fn := fun _ => fun
  | [d1, d2] => { results := [.lit (.bool true)], args := [d1, d2] }
  | _ => none }
def fnExactLeavesOfRow : OpenClaim := { program := "ytdkeblhkdekfjaa", sum := "be02381cbfbcc35c9c5d0197e657fa8355845f1c30f6a060a25f6480c2f62756", func := "loop.example/queryoptimizer/laws.FnExactLeavesOf", spec := "fnExactLeavesOf", recurses := true, loops := true, apart := false }
def FnExactLeavesOfSaid : Prop := fnExactLeavesOfRow.holds Try.pinned (OpenSpec.ofChange fnExactLeavesOfSpec)

/-- ITS FALSE NEIGHBOUR: 'it returns false'. Refute it at one input. -/
def fnExactLeavesOfWrong : ChangeSpec := { name := "fnExactLeavesOf", fn := fun _ => fun
  | [d1, d2] => { results := [.lit (.bool false)], args := [d1, d2] }
  | _ => none }
def FnExactLeavesOfWrongFalsely : Prop := fnExactLeavesOfRow.holds Try.pinned (OpenSpec.ofChange fnExactLeavesOfWrong)

/-- 'laws.FnLeavesOf': WHATEVER THE INPUT: true; the input reads as it did. -/
def fnLeavesOfSpec : ChangeSpec := { name := "fnLeavesOf", fn := fun _ => fun
  | [d] => { results := [.lit (.bool true)], args := [d] }
  | _ => none }
def fnLeavesOfRow : OpenClaim := { program := "ytdkeblhkdekfjaa", sum := "be02381cbfbcc35c9c5d0197e657fa8355845f1c30f6a060a25f6480c2f62756", func := "loop.example/queryoptimizer/laws.FnLeavesOf", spec := "fnLeavesOf", recurses := true, apart := false }
def FnLeavesOfSaid : Prop := fnLeavesOfRow.holds Try.pinned (OpenSpec.ofChange fnLeavesOfSpec)

/-- ITS FALSE NEIGHBOUR: 'it returns false'. Refute it at one input. -/
def fnLeavesOfWrong : ChangeSpec := { name := "fnLeavesOf", fn := fun _ => fun
  | [d] => { results := [.lit (.bool false)], args := [d] }
  | _ => none }
def FnLeavesOfWrongFalsely : Prop := fnLeavesOfRow.holds Try.pinned (OpenSpec.ofChange fnLeavesOfWrong)

/- THE SECOND FORM. 'bulk': how many values and letters a reading holds, each counted each time it is reached (what is shared counts as often as it is met; a slice's spare places count too). A statement '..UptoSaid' is the law's where the arguments, and the package variables that the reading takes, are together of bulk at most 1048576: NARROWER than '..Said'. Prove '..Said' where nothing that the law and all that it calls make is longer than what came in: it says more and counts as full. Else prove '..UptoSaid'. A law counts once. -/
mutual
def uptoBulk {H : Type} : DataW H → Nat
  | .lit (.string bytes) => bytes.length + 1
  | .lit _ => 1
  | .nil => 1
  | .ptr d => uptoBulk d + 1
  | .slice elems spare => uptoBulkAll elems + uptoBulkAll spare + 1
  | .agg parts => uptoBulkAll parts + 1
  | .iface _ d => uptoBulk d + 1
  | .map entries => uptoBulkEntries entries + 1
  | .held _ => 1
def uptoBulkAll {H : Type} : List (DataW H) → Nat
  | [] => 0
  | d :: r => uptoBulk d + uptoBulkAll r
def uptoBulkEntries {H : Type} : List (Lit × DataW H) → Nat
  | [] => 0
  | x :: r => uptoBulkEntry x + uptoBulkEntries r
def uptoBulkEntry {H : Type} : Lit × DataW H → Nat
  | (.string bytes, d) => bytes.length + uptoBulk d + 1
  | (_, d) => uptoBulk d + 1
 end
def uptoSmall : (H : Type) → List (DataW H) → Bool := fun _ ds => decide (uptoBulkAll ds ≤ 1048576)
def OpenSpec.upto (s : _root_.Go.ChangeSpec) : _root_.Go.OpenSpec := { _root_.Go.OpenSpec.ofChange s with cond := some uptoSmall }

/-- 'laws.FnExactValidStats', WHERE WHAT IT READS IS OF BULK AT MOST 1048576: true; the input reads as it did. -/
def fnExactValidStatsUptoRow : OpenClaim := { program := "ytdkeblhkdekfjaa", sum := "be02381cbfbcc35c9c5d0197e657fa8355845f1c30f6a060a25f6480c2f62756", func := "loop.example/queryoptimizer/laws.FnExactValidStats", spec := "fnExactValidStats", apart := false, narrowed := true }
def FnExactValidStatsUptoSaid : Prop := fnExactValidStatsUptoRow.holds Try.pinned (OpenSpec.upto fnExactValidStatsSpec)

/-- 'laws.FnExactValidFacts', WHERE WHAT IT READS IS OF BULK AT MOST 1048576: true; the input reads as it did. -/
def fnExactValidFactsUptoRow : OpenClaim := { program := "ytdkeblhkdekfjaa", sum := "be02381cbfbcc35c9c5d0197e657fa8355845f1c30f6a060a25f6480c2f62756", func := "loop.example/queryoptimizer/laws.FnExactValidFacts", spec := "fnExactValidFacts", apart := false, narrowed := true }
def FnExactValidFactsUptoSaid : Prop := fnExactValidFactsUptoRow.holds Try.pinned (OpenSpec.upto fnExactValidFactsSpec)

/-- 'laws.FnExactValidGraph', WHERE WHAT IT READS IS OF BULK AT MOST 1048576: true; the input reads as it did. -/
def fnExactValidGraphUptoRow : OpenClaim := { program := "ytdkeblhkdekfjaa", sum := "be02381cbfbcc35c9c5d0197e657fa8355845f1c30f6a060a25f6480c2f62756", func := "loop.example/queryoptimizer/laws.FnExactValidGraph", spec := "fnExactValidGraph", apart := false, narrowed := true }
def FnExactValidGraphUptoSaid : Prop := fnExactValidGraphUptoRow.holds Try.pinned (OpenSpec.upto fnExactValidGraphSpec)

/-- 'laws.FnExactValidRule', WHERE WHAT IT READS IS OF BULK AT MOST 1048576: true; the input reads as it did. -/
def fnExactValidRuleUptoRow : OpenClaim := { program := "ytdkeblhkdekfjaa", sum := "be02381cbfbcc35c9c5d0197e657fa8355845f1c30f6a060a25f6480c2f62756", func := "loop.example/queryoptimizer/laws.FnExactValidRule", spec := "fnExactValidRule", apart := false, narrowed := true }
def FnExactValidRuleUptoSaid : Prop := fnExactValidRuleUptoRow.holds Try.pinned (OpenSpec.upto fnExactValidRuleSpec)

/-- 'laws.FnExactCompareRows', WHERE WHAT IT READS IS OF BULK AT MOST 1048576: true; the input reads as it did. -/
def fnExactCompareRowsUptoRow : OpenClaim := { program := "ytdkeblhkdekfjaa", sum := "be02381cbfbcc35c9c5d0197e657fa8355845f1c30f6a060a25f6480c2f62756", func := "loop.example/queryoptimizer/laws.FnExactCompareRows", spec := "fnExactCompareRows", unfollowed := true, recurses := true, apart := false, narrowed := true }
def FnExactCompareRowsUptoSaid : Prop := fnExactCompareRowsUptoRow.holds Try.pinned (OpenSpec.upto fnExactCompareRowsSpec)

/-- 'laws.FnRowOrder', WHERE WHAT IT READS IS OF BULK AT MOST 1048576: true; the input reads as it did. -/
def fnRowOrderUptoRow : OpenClaim := { program := "ytdkeblhkdekfjaa", sum := "be02381cbfbcc35c9c5d0197e657fa8355845f1c30f6a060a25f6480c2f62756", func := "loop.example/queryoptimizer/laws.FnRowOrder", spec := "fnRowOrder", unfollowed := true, recurses := true, apart := false, narrowed := true }
def FnRowOrderUptoSaid : Prop := fnRowOrderUptoRow.holds Try.pinned (OpenSpec.upto fnRowOrderSpec)

/-- 'laws.FnExactValidTable', WHERE WHAT IT READS IS OF BULK AT MOST 1048576: true; the input reads as it did. -/
def fnExactValidTableUptoRow : OpenClaim := { program := "ytdkeblhkdekfjaa", sum := "be02381cbfbcc35c9c5d0197e657fa8355845f1c30f6a060a25f6480c2f62756", func := "loop.example/queryoptimizer/laws.FnExactValidTable", spec := "fnExactValidTable", unfollowed := true, recurses := true, apart := false, narrowed := true }
def FnExactValidTableUptoSaid : Prop := fnExactValidTableUptoRow.holds Try.pinned (OpenSpec.upto fnExactValidTableSpec)

/-- 'laws.FnExactCountRow', WHERE WHAT IT READS IS OF BULK AT MOST 1048576: true; the input reads as it did. -/
def fnExactCountRowUptoRow : OpenClaim := { program := "ytdkeblhkdekfjaa", sum := "be02381cbfbcc35c9c5d0197e657fa8355845f1c30f6a060a25f6480c2f62756", func := "loop.example/queryoptimizer/laws.FnExactCountRow", spec := "fnExactCountRow", unfollowed := true, recurses := true, apart := false, narrowed := true }
def FnExactCountRowUptoSaid : Prop := fnExactCountRowUptoRow.holds Try.pinned (OpenSpec.upto fnExactCountRowSpec)

/-- 'laws.FnExactStatsOf', WHERE WHAT IT READS IS OF BULK AT MOST 1048576: true; the input reads as it did. -/
def fnExactStatsOfUptoRow : OpenClaim := { program := "ytdkeblhkdekfjaa", sum := "be02381cbfbcc35c9c5d0197e657fa8355845f1c30f6a060a25f6480c2f62756", func := "loop.example/queryoptimizer/laws.FnExactStatsOf", spec := "fnExactStatsOf", unfollowed := true, recurses := true, apart := false, narrowed := true }
def FnExactStatsOfUptoSaid : Prop := fnExactStatsOfUptoRow.holds Try.pinned (OpenSpec.upto fnExactStatsOfSpec)

/-- 'laws.FnExactLeavesOf', WHERE WHAT IT READS IS OF BULK AT MOST 1048576: true; the input reads as it did. -/
def fnExactLeavesOfUptoRow : OpenClaim := { program := "ytdkeblhkdekfjaa", sum := "be02381cbfbcc35c9c5d0197e657fa8355845f1c30f6a060a25f6480c2f62756", func := "loop.example/queryoptimizer/laws.FnExactLeavesOf", spec := "fnExactLeavesOf", recurses := true, loops := true, apart := false, narrowed := true }
def FnExactLeavesOfUptoSaid : Prop := fnExactLeavesOfUptoRow.holds Try.pinned (OpenSpec.upto fnExactLeavesOfSpec)

/-- 'laws.FnLeavesOf', WHERE WHAT IT READS IS OF BULK AT MOST 1048576: true; the input reads as it did. -/
def fnLeavesOfUptoRow : OpenClaim := { program := "ytdkeblhkdekfjaa", sum := "be02381cbfbcc35c9c5d0197e657fa8355845f1c30f6a060a25f6480c2f62756", func := "loop.example/queryoptimizer/laws.FnLeavesOf", spec := "fnLeavesOf", recurses := true, apart := false, narrowed := true }
def FnLeavesOfUptoSaid : Prop := fnLeavesOfUptoRow.holds Try.pinned (OpenSpec.upto fnLeavesOfSpec)

end Rows
end Go.Proofs.Ytdkeblhkdekfjaa
