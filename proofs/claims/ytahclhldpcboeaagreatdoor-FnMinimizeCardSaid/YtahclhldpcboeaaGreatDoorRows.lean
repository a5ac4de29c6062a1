/-
  NARROWER THAN 'FOR EVERY INPUT', by the rows' own cells (each row's printed sentence says how): FnContainment: ifaces, laid · FnContainmentComplete: ifaces, laid · FnMinimize: ifaces, laid.
  DERIVED. THE GIVEN ROWS OF THIS SEAT. 3 by the template 'for every input the law returns true; each argument reads behind the call as it read before'; 0 by the template 'total and deterministic' (their statements: YtahclhldpcboeaaGreatDoorTotals.lean).
  GIVEN WITH THE SEED: the statements are not yours to turn. If you find one false, say at which input.
  Laid BY PROGRAM, IN A SANDBOX (cutbox-rows.mjs): the forced cells as the released guide's own fill.sh prints them over the translation 213c493a4ba1a51c… (all of the seat's roots in one cut). By AI agents, Wed Nov 11 2026. No macro, syntax, notation, axiom, sorry.
-/
import Derived.Test.YtahclhldpcboeaaGreatDoorChecked
import GoSem.Claim
import GoSem.ClaimJoined
import GoSem.ClaimMapViews
import Derived.JoinedTies
import Derived.KernelRfl
namespace Go.Proofs.YtahclhldpcboeaaGreatDoor
/- THE CELL 'sum', in the pinned program and in every row, IS THE sha256 OF THE DUMP (.gsa) THAT YtahclhldpcboeaaGreatDoorProg.lean LOADS. Nothing in Lean hashes anything: it is a label: what it is worth is what the hold of that sum in a sandbox is worth. -/
noncomputable def Tryz.pinned : Pinned := { name := "ytahclhldpcboeaagreatdoor", sum := "213c493a4ba1a51cf06e4c9b8fdc2ca4ca2ec57c549ac16e3f512c1a3ca637ca", checked := Tryz.checked }
namespace Rows
def none {H : Type} : Left H := { results := [], args := [] }

/- WHAT THE LISTED PACKAGE-LEVEL VARIABLES READ AS WHEN THE CALL BEGINS. Each datum BY PROGRAM (the guide's laid-datum.mjs) off the statement by which the dump's own 'gosem.cut.vars' lays the variable. In a bare row this is a premise. The card (YtahclhldpcboeaaGreatDoorCards.lean) ties it to the program's text. -/
def laid_loop_example_queryoptimizer_impl_errInvalidQuery {H : Type} : DataW H := .iface "*errors.errorString" (.ptr (.agg [.lit (.string [97, 32, 113, 117, 101, 114, 121, 32, 105, 115, 32, 105, 110, 118, 97, 108, 105, 100])]))
def laid_loop_example_queryoptimizer_impl_errNoHomomorphism {H : Type} : DataW H := .iface "*errors.errorString" (.ptr (.agg [.lit (.string [116, 104, 101, 114, 101, 32, 105, 115, 32, 110, 111, 32, 104, 111, 109, 111, 109, 111, 114, 112, 104, 105, 115, 109])]))

/-- 'laws.FnContainment': WHATEVER THE INPUT: true; the input reads as it did. -/
def fnContainmentSpec : ChangeSpec := { name := "fnContainment", vars := ["loop.example/queryoptimizer/impl.errInvalidQuery", "loop.example/queryoptimizer/impl.errNoHomomorphism"], fn := fun _ => fun
  | [d, g1, g2] => { results := [.lit (.bool true)], args := [d], vars := [g1, g2] }
  | _ => none }
def fnContainmentRow : OpenClaim := { program := "ytahclhldpcboeaagreatdoor", sum := "213c493a4ba1a51cf06e4c9b8fdc2ca4ca2ec57c549ac16e3f512c1a3ca637ca", func := "loop.example/queryoptimizer/laws.FnContainment", spec := "fnContainment", inPlace := ["internal/reflectlite.TypeOf"], unfollowed := true, recurses := true, named := ["loop.example/queryoptimizer/impl.errInvalidQuery", "loop.example/queryoptimizer/impl.errNoHomomorphism"], ifaces := true, apart := false, laid := [("loop.example/queryoptimizer/impl.errInvalidQuery", laid_loop_example_queryoptimizer_impl_errInvalidQuery), ("loop.example/queryoptimizer/impl.errNoHomomorphism", laid_loop_example_queryoptimizer_impl_errNoHomomorphism)] }
def FnContainmentSaid : Prop := fnContainmentRow.holds Tryz.pinned (OpenSpec.ofChange fnContainmentSpec)

/-- ITS FALSE NEIGHBOUR: 'it returns false'. Refute it at one input. -/
def fnContainmentWrong : ChangeSpec := { name := "fnContainment", vars := ["loop.example/queryoptimizer/impl.errInvalidQuery", "loop.example/queryoptimizer/impl.errNoHomomorphism"], fn := fun _ => fun
  | [d, g1, g2] => { results := [.lit (.bool false)], args := [d], vars := [g1, g2] }
  | _ => none }
def FnContainmentWrongFalsely : Prop := fnContainmentRow.holds Tryz.pinned (OpenSpec.ofChange fnContainmentWrong)

/-- 'laws.FnContainmentComplete': WHATEVER THE INPUT: true; the input reads as it did. -/
def fnContainmentCompleteSpec : ChangeSpec := { name := "fnContainmentComplete", vars := ["loop.example/queryoptimizer/impl.errInvalidQuery", "loop.example/queryoptimizer/impl.errNoHomomorphism"], fn := fun _ => fun
  | [d, g1, g2] => { results := [.lit (.bool true)], args := [d], vars := [g1, g2] }
  | _ => none }
def fnContainmentCompleteRow : OpenClaim := { program := "ytahclhldpcboeaagreatdoor", sum := "213c493a4ba1a51cf06e4c9b8fdc2ca4ca2ec57c549ac16e3f512c1a3ca637ca", func := "loop.example/queryoptimizer/laws.FnContainmentComplete", spec := "fnContainmentComplete", inPlace := ["internal/reflectlite.TypeOf"], unfollowed := true, recurses := true, named := ["loop.example/queryoptimizer/impl.errInvalidQuery", "loop.example/queryoptimizer/impl.errNoHomomorphism"], ifaces := true, apart := false, laid := [("loop.example/queryoptimizer/impl.errInvalidQuery", laid_loop_example_queryoptimizer_impl_errInvalidQuery), ("loop.example/queryoptimizer/impl.errNoHomomorphism", laid_loop_example_queryoptimizer_impl_errNoHomomorphism)] }
def FnContainmentCompleteSaid : Prop := fnContainmentCompleteRow.holds Tryz.pinned (OpenSpec.ofChange fnContainmentCompleteSpec)

/-- ITS FALSE NEIGHBOUR: 'it returns false'. Refute it at one input. -/
def fnContainmentCompleteWrong : ChangeSpec := { name := "fnContainmentComplete", vars := ["loop.example/queryoptimizer/impl.errInvalidQuery", "loop.example/queryoptimizer/impl.errNoHomomorphism"], fn := fun _ => fun
  | [d, g1, g2] => { results := [.lit (.bool false)], args := [d], vars := [g1, g2] }
  | _ => none }
def FnContainmentCompleteWrongFalsely : Prop := fnContainmentCompleteRow.holds Tryz.pinned (OpenSpec.ofChange fnContainmentCompleteWrong)

/-- 'laws.FnMinimize': WHATEVER THE INPUT: true; the input reads as it did. -/
def fnMinimizeSpec : ChangeSpec := { name := "fnMinimize", vars := ["loop.example/queryoptimizer/impl.errInvalidQuery", "loop.example/queryoptimizer/impl.errNoHomomorphism"], fn := fun _ => fun
  | [d, g1, g2] => { results := [.lit (.bool true)], args := [d], vars := [g1, g2] }
  | _ => none }
def fnMinimizeRow : OpenClaim := { program := "ytahclhldpcboeaagreatdoor", sum := "213c493a4ba1a51cf06e4c9b8fdc2ca4ca2ec57c549ac16e3f512c1a3ca637ca", func := "loop.example/queryoptimizer/laws.FnMinimize", spec := "fnMinimize", inPlace := ["internal/reflectlite.TypeOf"], unfollowed := true, recurses := true, named := ["loop.example/queryoptimizer/impl.errInvalidQuery", "loop.example/queryoptimizer/impl.errNoHomomorphism"], ifaces := true, apart := false, laid := [("loop.example/queryoptimizer/impl.errInvalidQuery", laid_loop_example_queryoptimizer_impl_errInvalidQuery), ("loop.example/queryoptimizer/impl.errNoHomomorphism", laid_loop_example_queryoptimizer_impl_errNoHomomorphism)] }
def FnMinimizeSaid : Prop := fnMinimizeRow.holds Tryz.pinned (OpenSpec.ofChange fnMinimizeSpec)

/-- ITS FALSE NEIGHBOUR: 'it returns false'. Refute it at one input. -/
def fnMinimizeWrong : ChangeSpec := { name := "fnMinimize", vars := ["loop.example/queryoptimizer/impl.errInvalidQuery", "loop.example/queryoptimizer/impl.errNoHomomorphism"], fn := fun _ => fun
  | [d, g1, g2] => { results := [.lit (.bool false)], args := [d], vars := [g1, g2] }
  | _ => none }
def FnMinimizeWrongFalsely : Prop := fnMinimizeRow.holds Tryz.pinned (OpenSpec.ofChange fnMinimizeWrong)

/- THE SECOND FORM. 'bulk': how many values and letters a reading holds, each counted each time it is reached (what is shared counts as often as it is met; a slice's spare places count too). A statement '..UptoSaid' is the law's where the arguments, and the package variables that the reading takes, are together of bulk at most 1048576: NARROWER than '..Said'. Prove '..Said' where nothing that the law and all that it calls make is longer than what came in: it says more and counts as full. Else prove '..UptoSaid'. A law counts once. -/
mutual
def uptoBulk {H : Type} : DataW H → Nat
  | .lit (.string bytes) => bytes.length + 1
  | .lit _ => 1
  | .nil => 1
  | .ptr d => uptoBulk d + 1
  | .slice elems spare => uptoBulkAll elems + uptoBulkAll spare + 1
  | .agg parts => uptoBulkAll parts + 1
  | .iface _ d => uptoBulk d + 1
  | .map entries => uptoBulkEntries entries + 1
  | .held _ => 1
def uptoBulkAll {H : Type} : List (DataW H) → Nat
  | [] => 0
  | d :: r => uptoBulk d + uptoBulkAll r
def uptoBulkEntries {H : Type} : List (Lit × DataW H) → Nat
  | [] => 0
  | x :: r => uptoBulkEntry x + uptoBulkEntries r
def uptoBulkEntry {H : Type} : Lit × DataW H → Nat
  | (.string bytes, d) => bytes.length + uptoBulk d + 1
  | (_, d) => uptoBulk d + 1
 end
def uptoSmall : (H : Type) → List (DataW H) → Bool := fun _ ds => decide (uptoBulkAll ds ≤ 1048576)
def OpenSpec.upto (s : _root_.Go.ChangeSpec) : _root_.Go.OpenSpec := { _root_.Go.OpenSpec.ofChange s with cond := some uptoSmall }

/-- 'laws.FnContainment', WHERE WHAT IT READS IS OF BULK AT MOST 1048576: true; the input reads as it did. -/
def fnContainmentUptoRow : OpenClaim := { program := "ytahclhldpcboeaagreatdoor", sum := "213c493a4ba1a51cf06e4c9b8fdc2ca4ca2ec57c549ac16e3f512c1a3ca637ca", func := "loop.example/queryoptimizer/laws.FnContainment", spec := "fnContainment", inPlace := ["internal/reflectlite.TypeOf"], unfollowed := true, recurses := true, named := ["loop.example/queryoptimizer/impl.errInvalidQuery", "loop.example/queryoptimizer/impl.errNoHomomorphism"], ifaces := true, apart := false, laid := [("loop.example/queryoptimizer/impl.errInvalidQuery", laid_loop_example_queryoptimizer_impl_errInvalidQuery), ("loop.example/queryoptimizer/impl.errNoHomomorphism", laid_loop_example_queryoptimizer_impl_errNoHomomorphism)], narrowed := true }
def FnContainmentUptoSaid : Prop := fnContainmentUptoRow.holds Tryz.pinned (OpenSpec.upto fnContainmentSpec)

/-- 'laws.FnContainmentComplete', WHERE WHAT IT READS IS OF BULK AT MOST 1048576: true; the input reads as it did. -/
def fnContainmentCompleteUptoRow : OpenClaim := { program := "ytahclhldpcboeaagreatdoor", sum := "213c493a4ba1a51cf06e4c9b8fdc2ca4ca2ec57c549ac16e3f512c1a3ca637ca", func := "loop.example/queryoptimizer/laws.FnContainmentComplete", spec := "fnContainmentComplete", inPlace := ["internal/reflectlite.TypeOf"], unfollowed := true, recurses := true, named := ["loop.example/queryoptimizer/impl.errInvalidQuery", "loop.example/queryoptimizer/impl.errNoHomomorphism"], ifaces := true, apart := false, laid := [("loop.example/queryoptimizer/impl.errInvalidQuery", laid_loop_example_queryoptimizer_impl_errInvalidQuery), ("loop.example/queryoptimizer/impl.errNoHomomorphism", laid_loop_example_queryoptimizer_impl_errNoHomomorphism)], narrowed := true }
def FnContainmentCompleteUptoSaid : Prop := fnContainmentCompleteUptoRow.holds Tryz.pinned (OpenSpec.upto fnContainmentCompleteSpec)

/-- 'laws.FnMinimize', WHERE WHAT IT READS IS OF BULK AT MOST 1048576: true; the input reads as it did. -/
def fnMinimizeUptoRow : OpenClaim := { program := "ytahclhldpcboeaagreatdoor", sum := "213c493a4ba1a51cf06e4c9b8fdc2ca4ca2ec57c549ac16e3f512c1a3ca637ca", func := "loop.example/queryoptimizer/laws.FnMinimize", spec := "fnMinimize", inPlace := ["internal/reflectlite.TypeOf"], unfollowed := true, recurses := true, named := ["loop.example/queryoptimizer/impl.errInvalidQuery", "loop.example/queryoptimizer/impl.errNoHomomorphism"], ifaces := true, apart := false, laid := [("loop.example/queryoptimizer/impl.errInvalidQuery", laid_loop_example_queryoptimizer_impl_errInvalidQuery), ("loop.example/queryoptimizer/impl.errNoHomomorphism", laid_loop_example_queryoptimizer_impl_errNoHomomorphism)], narrowed := true }
def FnMinimizeUptoSaid : Prop := fnMinimizeUptoRow.holds Tryz.pinned (OpenSpec.upto fnMinimizeSpec)

end Rows
end Go.Proofs.YtahclhldpcboeaaGreatDoor
