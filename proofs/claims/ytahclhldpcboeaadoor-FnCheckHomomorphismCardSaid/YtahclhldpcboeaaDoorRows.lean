/-
  NARROWER THAN 'FOR EVERY INPUT', by the rows' own cells (each row's printed sentence says how): FnExactIsContained: ifaces, laid · FnExactFindHomomorphism: ifaces, laid · FnExactIsMinimal: ifaces, laid · FnExactMinimize: ifaces, laid · FnContainmentOrder: ifaces, laid · FnFindHomomorphism: ifaces, laid · FnMinimizeTwice: ifaces, laid · FnCheckHomomorphism: ifaces, laid.
  DERIVED. THE GIVEN ROWS OF THIS SEAT. 8 by the template 'for every input the law returns true; each argument reads behind the call as it read before'; 0 by the template 'total and deterministic' (their statements: YtahclhldpcboeaaDoorTotals.lean).
  GIVEN WITH THE SEED: the statements are not yours to turn. If you find one false, say at which input.
  Laid BY PROGRAM, IN A SANDBOX (cutbox-rows.mjs): the forced cells as the released guide's own fill.sh prints them over the translation 4da09f765c9b4dae… (all of the seat's roots in one cut). By AI agents, Wed Nov 11 2026. No macro, syntax, notation, axiom, sorry.
-/
import Derived.Test.YtahclhldpcboeaaDoorChecked
import GoSem.Claim
import GoSem.ClaimJoined
import GoSem.ClaimMapViews
import Derived.JoinedTies
import Derived.KernelRfl
namespace Go.Proofs.YtahclhldpcboeaaDoor
/- THE CELL 'sum', in the pinned program and in every row, IS THE sha256 OF THE DUMP (.gsa) THAT YtahclhldpcboeaaDoorProg.lean LOADS. Nothing in Lean hashes anything: it is a label: what it is worth is what the hold of that sum in a sandbox is worth. -/
noncomputable def Tryd.pinned : Pinned := { name := "ytahclhldpcboeaadoor", sum := "4da09f765c9b4daef8c3100a7de15f6e3e0e6704cc3074d523db9b204dedb3a8", checked := Tryd.checked }
namespace Rows
def none {H : Type} : Left H := { results := [], args := [] }

/- WHAT THE LISTED PACKAGE-LEVEL VARIABLES READ AS WHEN THE CALL BEGINS. Each datum BY PROGRAM (the guide's laid-datum.mjs) off the statement by which the dump's own 'gosem.cut.vars' lays the variable. In a bare row this is a premise. The card (YtahclhldpcboeaaDoorCards.lean) ties it to the program's text. -/
def laid_loop_example_queryoptimizer_impl_errInvalidQuery {H : Type} : DataW H := .iface "*errors.errorString" (.ptr (.agg [.lit (.string [97, 32, 113, 117, 101, 114, 121, 32, 105, 115, 32, 105, 110, 118, 97, 108, 105, 100])]))
def laid_loop_example_queryoptimizer_impl_errNoHomomorphism {H : Type} : DataW H := .iface "*errors.errorString" (.ptr (.agg [.lit (.string [116, 104, 101, 114, 101, 32, 105, 115, 32, 110, 111, 32, 104, 111, 109, 111, 109, 111, 114, 112, 104, 105, 115, 109])]))

/-- 'laws.FnExactIsContained': WHATEVER THE INPUT: true; the input reads as it did. -/
def fnExactIsContainedSpec : ChangeSpec := { name := "fnExactIsContained", vars := ["loop.example/queryoptimizer/impl.errInvalidQuery", "loop.example/queryoptimizer/impl.errNoHomomorphism"], fn := fun _ => fun
  | [d1, d2, g1, g2] => { results := [.lit (.bool true)], args := [d1, d2], vars := [g1, g2] }
  | _ => none }
def fnExactIsContainedRow : OpenClaim := { program := "ytahclhldpcboeaadoor", sum := "4da09f765c9b4daef8c3100a7de15f6e3e0e6704cc3074d523db9b204dedb3a8", func := "loop.example/queryoptimizer/laws.FnExactIsContained", spec := "fnExactIsContained", inPlace := ["internal/reflectlite.TypeOf"], unfollowed := true, recurses := true, named := ["loop.example/queryoptimizer/impl.errInvalidQuery", "loop.example/queryoptimizer/impl.errNoHomomorphism"], ifaces := true, apart := false, laid := [("loop.example/queryoptimizer/impl.errInvalidQuery", laid_loop_example_queryoptimizer_impl_errInvalidQuery), ("loop.example/queryoptimizer/impl.errNoHomomorphism", laid_loop_example_queryoptimizer_impl_errNoHomomorphism)] }
def FnExactIsContainedSaid : Prop := fnExactIsContainedRow.holds Tryd.pinned (OpenSpec.ofChange fnExactIsContainedSpec)

/-- ITS FALSE NEIGHBOUR: 'it returns false'. Refute it at one input. -/
def fnExactIsContainedWrong : ChangeSpec := { name := "fnExactIsContained", vars := ["loop.example/queryoptimizer/impl.errInvalidQuery", "loop.example/queryoptimizer/impl.errNoHomomorphism"], fn := fun _ => fun
  | [d1, d2, g1, g2] => { results := [.lit (.bool false)], args := [d1, d2], vars := [g1, g2] }
  | _ => none }
def FnExactIsContainedWrongFalsely : Prop := fnExactIsContainedRow.holds Tryd.pinned (OpenSpec.ofChange fnExactIsContainedWrong)

/-- 'laws.FnExactFindHomomorphism': WHATEVER THE INPUT: true; the input reads as it did. -/
def fnExactFindHomomorphismSpec : ChangeSpec := { name := "fnExactFindHomomorphism", vars := ["loop.example/queryoptimizer/impl.errInvalidQuery", "loop.example/queryoptimizer/impl.errNoHomomorphism"], fn := fun _ => fun
  | [d1, d2, g1, g2] => { results := [.lit (.bool true)], args := [d1, d2], vars := [g1, g2] }
  | _ => none }
def fnExactFindHomomorphismRow : OpenClaim := { program := "ytahclhldpcboeaadoor", sum := "4da09f765c9b4daef8c3100a7de15f6e3e0e6704cc3074d523db9b204dedb3a8", func := "loop.example/queryoptimizer/laws.FnExactFindHomomorphism", spec := "fnExactFindHomomorphism", inPlace := ["internal/reflectlite.TypeOf"], unfollowed := true, recurses := true, named := ["loop.example/queryoptimizer/impl.errInvalidQuery", "loop.example/queryoptimizer/impl.errNoHomomorphism"], ifaces := true, apart := false, laid := [("loop.example/queryoptimizer/impl.errInvalidQuery", laid_loop_example_queryoptimizer_impl_errInvalidQuery), ("loop.example/queryoptimizer/impl.errNoHomomorphism", laid_loop_example_queryoptimizer_impl_errNoHomomorphism)] }
def FnExactFindHomomorphismSaid : Prop := fnExactFindHomomorphismRow.holds Tryd.pinned (OpenSpec.ofChange fnExactFindHomomorphismSpec)

/-- ITS FALSE NEIGHBOUR: 'it returns false'. Refute it at one input. -/
def fnExactFindHomomorphismWrong : ChangeSpec := { name := "fnExactFindHomomorphism", vars := ["loop.example/queryoptimizer/impl.errInvalidQuery", "loop.example/queryoptimizer/impl.errNoHomomorphism"], fn := fun _ => fun
  | [d1, d2, g1, g2] => { results := [.lit (.bool false)], args := [d1, d2], vars := [g1, g2] }
  | _ => none }
def FnExactFindHomomorphismWrongFalsely : Prop := fnExactFindHomomorphismRow.holds Tryd.pinned (OpenSpec.ofChange fnExactFindHomomorphismWrong)

/-- 'laws.FnExactIsMinimal': WHATEVER THE INPUT: true; the input reads as it did. -/
def fnExactIsMinimalSpec : ChangeSpec := { name := "fnExactIsMinimal", vars := ["loop.example/queryoptimizer/impl.errInvalidQuery", "loop.example/queryoptimizer/impl.errNoHomomorphism"], fn := fun _ => fun
  | [d, g1, g2] => { results := [.lit (.bool true)], args := [d], vars := [g1, g2] }
  | _ => none }
def fnExactIsMinimalRow : OpenClaim := { program := "ytahclhldpcboeaadoor", sum := "4da09f765c9b4daef8c3100a7de15f6e3e0e6704cc3074d523db9b204dedb3a8", func := "loop.example/queryoptimizer/laws.FnExactIsMinimal", spec := "fnExactIsMinimal", inPlace := ["internal/reflectlite.TypeOf"], unfollowed := true, recurses := true, named := ["loop.example/queryoptimizer/impl.errInvalidQuery", "loop.example/queryoptimizer/impl.errNoHomomorphism"], ifaces := true, apart := false, laid := [("loop.example/queryoptimizer/impl.errInvalidQuery", laid_loop_example_queryoptimizer_impl_errInvalidQuery), ("loop.example/queryoptimizer/impl.errNoHomomorphism", laid_loop_example_queryoptimizer_impl_errNoHomomorphism)] }
def FnExactIsMinimalSaid : Prop := fnExactIsMinimalRow.holds Tryd.pinned (OpenSpec.ofChange fnExactIsMinimalSpec)

/-- ITS FALSE NEIGHBOUR: 'it returns false'. Refute it at one input. -/
def fnExactIsMinimalWrong : ChangeSpec := { name := "fnExactIsMinimal", vars := ["loop.example/queryoptimizer/impl.errInvalidQuery", "loop.example/queryoptimizer/impl.errNoHomomorphism"], fn := fun _ => fun
  | [d, g1, g2] => { results := [.lit (.bool false)], args := [d], vars := [g1, g2] }
  | _ => none }
def FnExactIsMinimalWrongFalsely : Prop := fnExactIsMinimalRow.holds Tryd.pinned (OpenSpec.ofChange fnExactIsMinimalWrong)

/-- 'laws.FnExactMinimize': WHATEVER THE INPUT: true; the input reads as it did. -/
def fnExactMinimizeSpec : ChangeSpec := { name := "fnExactMinimize", vars := ["loop.example/queryoptimizer/impl.errInvalidQuery", "loop.example/queryoptimizer/impl.errNoHomomorphism"], fn := fun _ => fun
  | [d, g1, g2] => { results := [.lit (.bool true)], args := [d], vars := [g1, g2] }
  | _ => none }
def fnExactMinimizeRow : OpenClaim := { program := "ytahclhldpcboeaadoor", sum := "4da09f765c9b4daef8c3100a7de15f6e3e0e6704cc3074d523db9b204dedb3a8", func := "loop.example/queryoptimizer/laws.FnExactMinimize", spec := "fnExactMinimize", inPlace := ["internal/reflectlite.TypeOf"], unfollowed := true, recurses := true, named := ["loop.example/queryoptimizer/impl.errInvalidQuery", "loop.example/queryoptimizer/impl.errNoHomomorphism"], ifaces := true, apart := false, laid := [("loop.example/queryoptimizer/impl.errInvalidQuery", laid_loop_example_queryoptimizer_impl_errInvalidQuery), ("loop.example/queryoptimizer/impl.errNoHomomorphism", laid_loop_example_queryoptimizer_impl_errNoHomomorphism)] }
def FnExactMinimizeSaid : Prop := fnExactMinimizeRow.holds Tryd.pinned (OpenSpec.ofChange fnExactMinimizeSpec)

/-- ITS FALSE NEIGHBOUR: 'it returns false'. Refute it at one input. -/
def fnExactMinimizeWrong : ChangeSpec := { name := "fnExactMinimize", vars := ["loop.example/queryoptimizer/impl.errInvalidQuery", "loop.example/queryoptimizer/impl.errNoHomomorphism"], fn := fun _ => fun
  | [d, g1, g2] => { results := [.lit (.bool false)], args := [d], vars := [g1, g2] }
  | _ => none }
def FnExactMinimizeWrongFalsely : Prop := fnExactMinimizeRow.holds Tryd.pinned (OpenSpec.ofChange fnExactMinimizeWrong)

/-- 'laws.FnContainmentOrder': WHATEVER THE INPUT: true; the input reads as it did. -/
def fnContainmentOrderSpec : ChangeSpec := { name := "fnContainmentOrder", vars := ["loop.example/queryoptimizer/impl.errInvalidQuery", "loop.example/queryoptimizer/impl.errNoHomomorphism"], fn := fun _ => fun
  | [d1, d2, g1, g2] => { results := [.lit (.bool true)], args := [d1, d2], vars := [g1, g2] }
  | _ => none }
def fnContainmentOrderRow : OpenClaim := { program := "ytahclhldpcboeaadoor", sum := "4da09f765c9b4daef8c3100a7de15f6e3e0e6704cc3074d523db9b204dedb3a8", func := "loop.example/queryoptimizer/laws.FnContainmentOrder", spec := "fnContainmentOrder", inPlace := ["internal/reflectlite.TypeOf"], unfollowed := true, recurses := true, named := ["loop.example/queryoptimizer/impl.errInvalidQuery", "loop.example/queryoptimizer/impl.errNoHomomorphism"], ifaces := true, apart := false, laid := [("loop.example/queryoptimizer/impl.errInvalidQuery", laid_loop_example_queryoptimizer_impl_errInvalidQuery), ("loop.example/queryoptimizer/impl.errNoHomomorphism", laid_loop_example_queryoptimizer_impl_errNoHomomorphism)] }
def FnContainmentOrderSaid : Prop := fnContainmentOrderRow.holds Tryd.pinned (OpenSpec.ofChange fnContainmentOrderSpec)

/-- ITS FALSE NEIGHBOUR: 'it returns false'. Refute it at one input. -/
def fnContainmentOrderWrong : ChangeSpec := { name := "fnContainmentOrder", vars := ["loop.example/queryoptimizer/impl.errInvalidQuery", "loop.example/queryoptimizer/impl.errNoHomomorphism"], fn := fun _ => fun
  | [d1, d2, g1, g2] => { results := [.lit (.bool false)], args := [d1, d2], vars := [g1, g2] }
  | _ => none }
def FnContainmentOrderWrongFalsely : Prop := fnContainmentOrderRow.holds Tryd.pinned (OpenSpec.ofChange fnContainmentOrderWrong)

/-- 'laws.FnFindHomomorphism': WHATEVER THE INPUT: true; the input reads as it did. -/
def fnFindHomomorphismSpec : ChangeSpec := { name := "fnFindHomomorphism", vars := ["loop.example/queryoptimizer/impl.errInvalidQuery", "loop.example/queryoptimizer/impl.errNoHomomorphism"], fn := fun _ => fun
  | [d, g1, g2] => { results := [.lit (.bool true)], args := [d], vars := [g1, g2] }
  | _ => none }
def fnFindHomomorphismRow : OpenClaim := { program := "ytahclhldpcboeaadoor", sum := "4da09f765c9b4daef8c3100a7de15f6e3e0e6704cc3074d523db9b204dedb3a8", func := "loop.example/queryoptimizer/laws.FnFindHomomorphism", spec := "fnFindHomomorphism", inPlace := ["internal/reflectlite.TypeOf"], unfollowed := true, recurses := true, named := ["loop.example/queryoptimizer/impl.errInvalidQuery", "loop.example/queryoptimizer/impl.errNoHomomorphism"], ifaces := true, apart := false, laid := [("loop.example/queryoptimizer/impl.errInvalidQuery", laid_loop_example_queryoptimizer_impl_errInvalidQuery), ("loop.example/queryoptimizer/impl.errNoHomomorphism", laid_loop_example_queryoptimizer_impl_errNoHomomorphism)] }
def FnFindHomomorphismSaid : Prop := fnFindHomomorphismRow.holds Tryd.pinned (OpenSpec.ofChange fnFindHomomorphismSpec)

/-- ITS FALSE NEIGHBOUR: 'it returns false'. Refute it at one input. -/
def fnFindHomomorphismWrong : ChangeSpec := { name := "fnFindHomomorphism", vars := ["loop.example/queryoptimizer/impl.errInvalidQuery", "loop.example/queryoptimizer/impl.errNoHomomorphism"], fn := fun _ => fun
  | [d, g1, g2] => { results := [.lit (.bool false)], args := [d], vars := [g1, g2] }
  | _ => none }
def FnFindHomomorphismWrongFalsely : Prop := fnFindHomomorphismRow.holds Tryd.pinned (OpenSpec.ofChange fnFindHomomorphismWrong)

/-- 'laws.FnMinimizeTwice': WHATEVER THE INPUT: true; the input reads as it did. -/
def fnMinimizeTwiceSpec : ChangeSpec := { name := "fnMinimizeTwice", vars := ["loop.example/queryoptimizer/impl.errInvalidQuery", "loop.example/queryoptimizer/impl.errNoHomomorphism"], fn := fun _ => fun
  | [d, g1, g2] => { results := [.lit (.bool true)], args := [d], vars := [g1, g2] }
  | _ => none }
def fnMinimizeTwiceRow : OpenClaim := { program := "ytahclhldpcboeaadoor", sum := "4da09f765c9b4daef8c3100a7de15f6e3e0e6704cc3074d523db9b204dedb3a8", func := "loop.example/queryoptimizer/laws.FnMinimizeTwice", spec := "fnMinimizeTwice", inPlace := ["internal/reflectlite.TypeOf"], unfollowed := true, recurses := true, named := ["loop.example/queryoptimizer/impl.errInvalidQuery", "loop.example/queryoptimizer/impl.errNoHomomorphism"], ifaces := true, apart := false, laid := [("loop.example/queryoptimizer/impl.errInvalidQuery", laid_loop_example_queryoptimizer_impl_errInvalidQuery), ("loop.example/queryoptimizer/impl.errNoHomomorphism", laid_loop_example_queryoptimizer_impl_errNoHomomorphism)] }
def FnMinimizeTwiceSaid : Prop := fnMinimizeTwiceRow.holds Tryd.pinned (OpenSpec.ofChange fnMinimizeTwiceSpec)

/-- ITS FALSE NEIGHBOUR: 'it returns false'. Refute it at one input. -/
def fnMinimizeTwiceWrong : ChangeSpec := { name := "fnMinimizeTwice", vars := ["loop.example/queryoptimizer/impl.errInvalidQuery", "loop.example/queryoptimizer/impl.errNoHomomorphism"], fn := fun _ => fun
  | [d, g1, g2] => { results := [.lit (.bool false)], args := [d], vars := [g1, g2] }
  | _ => none }
def FnMinimizeTwiceWrongFalsely : Prop := fnMinimizeTwiceRow.holds Tryd.pinned (OpenSpec.ofChange fnMinimizeTwiceWrong)

/-- 'laws.FnCheckHomomorphism': WHATEVER THE INPUT: true; the input reads as it did. -/
def fnCheckHomomorphismSpec : ChangeSpec := { name := "fnCheckHomomorphism", vars := ["loop.example/queryoptimizer/impl.errInvalidQuery", "loop.example/queryoptimizer/impl.errNoHomomorphism"], fn := fun _ => fun
  | [d, g1, g2] => { results := [.lit (.bool true)], args := [d], vars := [g1, g2] }
  | _ => none }
def fnCheckHomomorphismRow : OpenClaim := { program := "ytahclhldpcboeaadoor", sum := "4da09f765c9b4daef8c3100a7de15f6e3e0e6704cc3074d523db9b204dedb3a8", func := "loop.example/queryoptimizer/laws.FnCheckHomomorphism", spec := "fnCheckHomomorphism", inPlace := ["internal/reflectlite.TypeOf"], unfollowed := true, recurses := true, named := ["loop.example/queryoptimizer/impl.errInvalidQuery", "loop.example/queryoptimizer/impl.errNoHomomorphism"], ifaces := true, apart := false, laid := [("loop.example/queryoptimizer/impl.errInvalidQuery", laid_loop_example_queryoptimizer_impl_errInvalidQuery), ("loop.example/queryoptimizer/impl.errNoHomomorphism", laid_loop_example_queryoptimizer_impl_errNoHomomorphism)] }
def FnCheckHomomorphismSaid : Prop := fnCheckHomomorphismRow.holds Tryd.pinned (OpenSpec.ofChange fnCheckHomomorphismSpec)

/-- ITS FALSE NEIGHBOUR: 'it returns false'. Refute it at one input. -/
def fnCheckHomomorphismWrong : ChangeSpec := { name := "fnCheckHomomorphism", vars := ["loop.example/queryoptimizer/impl.errInvalidQuery", "loop.example/queryoptimizer/impl.errNoHomomorphism"], fn := fun _ => fun
  | [d, g1, g2] => { results := [.lit (.bool false)], args := [d], vars := [g1, g2] }
  | _ => none }
def FnCheckHomomorphismWrongFalsely : Prop := fnCheckHomomorphismRow.holds Tryd.pinned (OpenSpec.ofChange fnCheckHomomorphismWrong)

/- THE SECOND FORM. 'bulk': how many values and letters a reading holds, each counted each time it is reached (what is shared counts as often as it is met; a slice's spare places count too). A statement '..UptoSaid' is the law's where the arguments, and the package variables that the reading takes, are together of bulk at most 1048576: NARROWER than '..Said'. Prove '..Said' where nothing that the law and all that it calls make is longer than what came in: it says more and counts as full. Else prove '..UptoSaid'. A law counts once. -/
mutual
def uptoBulk {H : Type} : DataW H → Nat
  | .lit (.string bytes) => bytes.length + 1
  | .lit _ => 1
  | .nil => 1
  | .ptr d => uptoBulk d + 1
  | .slice elems spare => uptoBulkAll elems + uptoBulkAll spare + 1
  | .agg parts => uptoBulkAll parts + 1
  | .iface _ d => uptoBulk d + 1
  | .map entries => uptoBulkEntries entries + 1
  | .held _ => 1
def uptoBulkAll {H : Type} : List (DataW H) → Nat
  | [] => 0
  | d :: r => uptoBulk d + uptoBulkAll r
def uptoBulkEntries {H : Type} : List (Lit × DataW H) → Nat
  | [] => 0
  | x :: r => uptoBulkEntry x + uptoBulkEntries r
def uptoBulkEntry {H : Type} : Lit × DataW H → Nat
  | (.string bytes, d) => bytes.length + uptoBulk d + 1
  | (_, d) => uptoBulk d + 1
 end
def uptoSmall : (H : Type) → List (DataW H) → Bool := fun _ ds => decide (uptoBulkAll ds ≤ 1048576)
def OpenSpec.upto (s : _root_.Go.ChangeSpec) : _root_.Go.OpenSpec := { _root_.Go.OpenSpec.ofChange s with cond := some uptoSmall }

/-- 'laws.FnExactIsContained', WHERE WHAT IT READS IS OF BULK AT MOST 1048576: true; the input reads as it did. -/
def fnExactIsContainedUptoRow : OpenClaim := { program := "ytahclhldpcboeaadoor", sum := "4da09f765c9b4daef8c3100a7de15f6e3e0e6704cc3074d523db9b204dedb3a8", func := "loop.example/queryoptimizer/laws.FnExactIsContained", spec := "fnExactIsContained", inPlace := ["internal/reflectlite.TypeOf"], unfollowed := true, recurses := true, named := ["loop.example/queryoptimizer/impl.errInvalidQuery", "loop.example/queryoptimizer/impl.errNoHomomorphism"], ifaces := true, apart := false, laid := [("loop.example/queryoptimizer/impl.errInvalidQuery", laid_loop_example_queryoptimizer_impl_errInvalidQuery), ("loop.example/queryoptimizer/impl.errNoHomomorphism", laid_loop_example_queryoptimizer_impl_errNoHomomorphism)], narrowed := true }
def FnExactIsContainedUptoSaid : Prop := fnExactIsContainedUptoRow.holds Tryd.pinned (OpenSpec.upto fnExactIsContainedSpec)

/-- 'laws.FnExactFindHomomorphism', WHERE WHAT IT READS IS OF BULK AT MOST 1048576: true; the input reads as it did. -/
def fnExactFindHomomorphismUptoRow : OpenClaim := { program := "ytahclhldpcboeaadoor", sum := "4da09f765c9b4daef8c3100a7de15f6e3e0e6704cc3074d523db9b204dedb3a8", func := "loop.example/queryoptimizer/laws.FnExactFindHomomorphism", spec := "fnExactFindHomomorphism", inPlace := ["internal/reflectlite.TypeOf"], unfollowed := true, recurses := true, named := ["loop.example/queryoptimizer/impl.errInvalidQuery", "loop.example/queryoptimizer/impl.errNoHomomorphism"], ifaces := true, apart := false, laid := [("loop.example/queryoptimizer/impl.errInvalidQuery", laid_loop_example_queryoptimizer_impl_errInvalidQuery), ("loop.example/queryoptimizer/impl.errNoHomomorphism", laid_loop_example_queryoptimizer_impl_errNoHomomorphism)], narrowed := true }
def FnExactFindHomomorphismUptoSaid : Prop := fnExactFindHomomorphismUptoRow.holds Tryd.pinned (OpenSpec.upto fnExactFindHomomorphismSpec)

/-- 'laws.FnExactIsMinimal', WHERE WHAT IT READS IS OF BULK AT MOST 1048576: true; the input reads as it did. -/
def fnExactIsMinimalUptoRow : OpenClaim := { program := "ytahclhldpcboeaadoor", sum := "4da09f765c9b4daef8c3100a7de15f6e3e0e6704cc3074d523db9b204dedb3a8", func := "loop.example/queryoptimizer/laws.FnExactIsMinimal", spec := "fnExactIsMinimal", inPlace := ["internal/reflectlite.TypeOf"], unfollowed := true, recurses := true, named := ["loop.example/queryoptimizer/impl.errInvalidQuery", "loop.example/queryoptimizer/impl.errNoHomomorphism"], ifaces := true, apart := false, laid := [("loop.example/queryoptimizer/impl.errInvalidQuery", laid_loop_example_queryoptimizer_impl_errInvalidQuery), ("loop.example/queryoptimizer/impl.errNoHomomorphism", laid_loop_example_queryoptimizer_impl_errNoHomomorphism)], narrowed := true }
def FnExactIsMinimalUptoSaid : Prop := fnExactIsMinimalUptoRow.holds Tryd.pinned (OpenSpec.upto fnExactIsMinimalSpec)

/-- 'laws.FnExactMinimize', WHERE WHAT IT READS IS OF BULK AT MOST 1048576: true; the input reads as it did. -/
def fnExactMinimizeUptoRow : OpenClaim := { program := "ytahclhldpcboeaadoor", sum := "4da09f765c9b4daef8c3100a7de15f6e3e0e6704cc3074d523db9b204dedb3a8", func := "loop.example/queryoptimizer/laws.FnExactMinimize", spec := "fnExactMinimize", inPlace := ["internal/reflectlite.TypeOf"], unfollowed := true, recurses := true, named := ["loop.example/queryoptimizer/impl.errInvalidQuery", "loop.example/queryoptimizer/impl.errNoHomomorphism"], ifaces := true, apart := false, laid := [("loop.example/queryoptimizer/impl.errInvalidQuery", laid_loop_example_queryoptimizer_impl_errInvalidQuery), ("loop.example/queryoptimizer/impl.errNoHomomorphism", laid_loop_example_queryoptimizer_impl_errNoHomomorphism)], narrowed := true }
def FnExactMinimizeUptoSaid : Prop := fnExactMinimizeUptoRow.holds Tryd.pinned (OpenSpec.upto fnExactMinimizeSpec)

/-- 'laws.FnContainmentOrder', WHERE WHAT IT READS IS OF BULK AT MOST 1048576: true; the input reads as it did. -/
def fnContainmentOrderUptoRow : OpenClaim := { program := "ytahclhldpcboeaadoor", sum := "4da09f765c9b4daef8c3100a7de15f6e3e0e6704cc3074d523db9b204dedb3a8", func := "loop.example/queryoptimizer/laws.FnContainmentOrder", spec := "fnContainmentOrder", inPlace := ["internal/reflectlite.TypeOf"], unfollowed := true, recurses := true, named := ["loop.example/queryoptimizer/impl.errInvalidQuery", "loop.example/queryoptimizer/impl.errNoHomomorphism"], ifaces := true, apart := false, laid := [("loop.example/queryoptimizer/impl.errInvalidQuery", laid_loop_example_queryoptimizer_impl_errInvalidQuery), ("loop.example/queryoptimizer/impl.errNoHomomorphism", laid_loop_example_queryoptimizer_impl_errNoHomomorphism)], narrowed := true }
def FnContainmentOrderUptoSaid : Prop := fnContainmentOrderUptoRow.holds Tryd.pinned (OpenSpec.upto fnContainmentOrderSpec)

/-- 'laws.FnFindHomomorphism', WHERE WHAT IT READS IS OF BULK AT MOST 1048576: true; the input reads as it did. -/
def fnFindHomomorphismUptoRow : OpenClaim := { program := "ytahclhldpcboeaadoor", sum := "4da09f765c9b4daef8c3100a7de15f6e3e0e6704cc3074d523db9b204dedb3a8", func := "loop.example/queryoptimizer/laws.FnFindHomomorphism", spec := "fnFindHomomorphism", inPlace := ["internal/reflectlite.TypeOf"], unfollowed := true, recurses := true, named := ["loop.example/queryoptimizer/impl.errInvalidQuery", "loop.example/queryoptimizer/impl.errNoHomomorphism"], ifaces := true, apart := false, laid := [("loop.example/queryoptimizer/impl.errInvalidQuery", laid_loop_example_queryoptimizer_impl_errInvalidQuery), ("loop.example/queryoptimizer/impl.errNoHomomorphism", laid_loop_example_queryoptimizer_impl_errNoHomomorphism)], narrowed := true }
def FnFindHomomorphismUptoSaid : Prop := fnFindHomomorphismUptoRow.holds Tryd.pinned (OpenSpec.upto fnFindHomomorphismSpec)

/-- 'laws.FnMinimizeTwice', WHERE WHAT IT READS IS OF BULK AT MOST 1048576: true; the input reads as it did. -/
def fnMinimizeTwiceUptoRow : OpenClaim := { program := "ytahclhldpcboeaadoor", sum := "4da09f765c9b4daef8c3100a7de15f6e3e0e6704cc3074d523db9b204dedb3a8", func := "loop.example/queryoptimizer/laws.FnMinimizeTwice", spec := "fnMinimizeTwice", inPlace := ["internal/reflectlite.TypeOf"], unfollowed := true, recurses := true, named := ["loop.example/queryoptimizer/impl.errInvalidQuery", "loop.example/queryoptimizer/impl.errNoHomomorphism"], ifaces := true, apart := false, laid := [("loop.example/queryoptimizer/impl.errInvalidQuery", laid_loop_example_queryoptimizer_impl_errInvalidQuery), ("loop.example/queryoptimizer/impl.errNoHomomorphism", laid_loop_example_queryoptimizer_impl_errNoHomomorphism)], narrowed := true }
def FnMinimizeTwiceUptoSaid : Prop := fnMinimizeTwiceUptoRow.holds Tryd.pinned (OpenSpec.upto fnMinimizeTwiceSpec)

/-- 'laws.FnCheckHomomorphism', WHERE WHAT IT READS IS OF BULK AT MOST 1048576: true; the input reads as it did. -/
def fnCheckHomomorphismUptoRow : OpenClaim := { program := "ytahclhldpcboeaadoor", sum := "4da09f765c9b4daef8c3100a7de15f6e3e0e6704cc3074d523db9b204dedb3a8", func := "loop.example/queryoptimizer/laws.FnCheckHomomorphism", spec := "fnCheckHomomorphism", inPlace := ["internal/reflectlite.TypeOf"], unfollowed := true, recurses := true, named := ["loop.example/queryoptimizer/impl.errInvalidQuery", "loop.example/queryoptimizer/impl.errNoHomomorphism"], ifaces := true, apart := false, laid := [("loop.example/queryoptimizer/impl.errInvalidQuery", laid_loop_example_queryoptimizer_impl_errInvalidQuery), ("loop.example/queryoptimizer/impl.errNoHomomorphism", laid_loop_example_queryoptimizer_impl_errNoHomomorphism)], narrowed := true }
def FnCheckHomomorphismUptoSaid : Prop := fnCheckHomomorphismUptoRow.holds Tryd.pinned (OpenSpec.upto fnCheckHomomorphismSpec)

end Rows
end Go.Proofs.YtahclhldpcboeaaDoor
