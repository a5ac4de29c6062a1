/-
  NARROWER THAN 'FOR EVERY INPUT', by the rows' own cells (each row's printed sentence says how): FnExactColumnsOf: loops · FnExactConjuncts: loops · FnExactConjoin: loops.
  DERIVED. THE GIVEN ROWS OF THIS SEAT. 6 by the template 'for every input the law returns true; each argument reads behind the call as it read before'; 0 by the template 'total and deterministic' (their statements: YtfillcjpdnpaiaaTotals.lean).
  GIVEN WITH THE SEED: the statements are not yours to turn. If you find one false, say at which input.
  Laid BY PROGRAM, IN A SANDBOX (cutbox-rows.mjs): the forced cells as the released guide's own fill.sh prints them over the translation 1d29a87cab6808f9… (all of the seat's roots in one cut). By AI agents, Wed Nov 11 2026. No macro, syntax, notation, axiom, sorry.
-/
import Derived.Test.YtfillcjpdnpaiaaChecked
import GoSem.Claim
import GoSem.ClaimJoined
import GoSem.ClaimMapViews
import Derived.JoinedTies
import Derived.KernelRfl
namespace Go.Proofs.Ytfillcjpdnpaiaa
/- THE CELL 'sum', in the pinned program and in every row, IS THE sha256 OF THE DUMP (.gsa) THAT YtfillcjpdnpaiaaProg.lean LOADS. Nothing in Lean hashes anything: it is a label: what it is worth is what the hold of that sum in a sandbox is worth. -/
noncomputable def Try.pinned : Pinned := { name := "ytfillcjpdnpaiaa", sum := "1d29a87cab6808f9fb2ba2a5e8178e702ddd6f62f2ecdab41432f869e506682a", checked := Try.checked }
namespace Rows
def none {H : Type} : Left H := { results := [], args := [] }

/-- 'laws.FnExactColumnsOf': WHATEVER THE INPUT: true; the input reads as it did. -/
def fnExactColumnsOfSpec : ChangeSpec := { name := "fnExactColumnsOf", fn := fun _ => fun
  | [d] => { results := [.lit (.bool true)], args := [d] }
  | _ => none }
def fnExactColumnsOfRow : OpenClaim := { program := "ytfillcjpdnpaiaa", sum := "1d29a87cab6808f9fb2ba2a5e8178e702ddd6f62f2ecdab41432f869e506682a", func := "loop.example/queryoptimizer/laws.FnExactColumnsOf", spec := "fnExactColumnsOf", recurses := true, loops := true, apart := false }
def FnExactColumnsOfSaid : Prop := fnExactColumnsOfRow.holds Try.pinned (OpenSpec.ofChange fnExactColumnsOfSpec)

/-- ITS FALSE NEIGHBOUR: 'it returns false'. Refute it at one input. -/
def fnExactColumnsOfWrong : ChangeSpec := { name := "fnExactColumnsOf", fn := fun _ => fun
  | [d] => { results := [.lit (.bool false)], args := [d] }
  | _ => none }
def FnExactColumnsOfWrongFalsely : Prop := fnExactColumnsOfRow.holds Try.pinned (OpenSpec.ofChange fnExactColumnsOfWrong)

/-- 'laws.FnExactConjuncts': WHATEVER THE INPUT: true; the input reads as it did. -/
def fnExactConjunctsSpec : ChangeSpec := { name := "fnExactConjuncts", fn := fun _ => fun
  | [d] => { results := [.lit (.bool true)], args := [d] }
  | _ => none }
def fnExactConjunctsRow : OpenClaim := { program := "ytfillcjpdnpaiaa", sum := "1d29a87cab6808f9fb2ba2a5e8178e702ddd6f62f2ecdab41432f869e506682a", func := "loop.example/queryoptimizer/laws.FnExactConjuncts", spec := "fnExactConjuncts", unfollowed := true, recurses := true, loops := true, apart := false }
def FnExactConjunctsSaid : Prop := fnExactConjunctsRow.holds Try.pinned (OpenSpec.ofChange fnExactConjunctsSpec)

/-- ITS FALSE NEIGHBOUR: 'it returns false'. Refute it at one input. -/
def fnExactConjunctsWrong : ChangeSpec := { name := "fnExactConjuncts", fn := fun _ => fun
  | [d] => { results := [.lit (.bool false)], args := [d] }
  | _ => none }
def FnExactConjunctsWrongFalsely : Prop := fnExactConjunctsRow.holds Try.pinned (OpenSpec.ofChange fnExactConjunctsWrong)

/-- 'laws.FnExactConjoin': WHATEVER THE INPUT: true; the input reads as it did. -/
def fnExactConjoinSpec : ChangeSpec := { name := "fnExactConjoin", fn := fun _ => fun
  | [d] => { results := [.lit (.bool true)], args := [d] }
  | _ => none }
def fnExactConjoinRow : OpenClaim := { program := "ytfillcjpdnpaiaa", sum := "1d29a87cab6808f9fb2ba2a5e8178e702ddd6f62f2ecdab41432f869e506682a", func := "loop.example/queryoptimizer/laws.FnExactConjoin", spec := "fnExactConjoin", recurses := true, loops := true, apart := false }
def FnExactConjoinSaid : Prop := fnExactConjoinRow.holds Try.pinned (OpenSpec.ofChange fnExactConjoinSpec)

/-- ITS FALSE NEIGHBOUR: 'it returns false'. Refute it at one input. -/
def fnExactConjoinWrong : ChangeSpec := { name := "fnExactConjoin", fn := fun _ => fun
  | [d] => { results := [.lit (.bool false)], args := [d] }
  | _ => none }
def FnExactConjoinWrongFalsely : Prop := fnExactConjoinRow.holds Try.pinned (OpenSpec.ofChange fnExactConjoinWrong)

/-- 'laws.FnColumnsOf': WHATEVER THE INPUT: true; the input reads as it did. -/
def fnColumnsOfSpec : ChangeSpec := { name := "fnColumnsOf", fn := fun _ => fun
  | [d] => { results := [.lit (.bool true)], args := [d] }
  | _ => none }
def fnColumnsOfRow : OpenClaim := { program := "ytfillcjpdnpaiaa", sum := "1d29a87cab6808f9fb2ba2a5e8178e702ddd6f62f2ecdab41432f869e506682a", func := "loop.example/queryoptimizer/laws.FnColumnsOf", spec := "fnColumnsOf", recurses := true, apart := false }
def FnColumnsOfSaid : Prop := fnColumnsOfRow.holds Try.pinned (OpenSpec.ofChange fnColumnsOfSpec)

/-- ITS FALSE NEIGHBOUR: 'it returns false'. Refute it at one input. -/
def fnColumnsOfWrong : ChangeSpec := { name := "fnColumnsOf", fn := fun _ => fun
  | [d] => { results := [.lit (.bool false)], args := [d] }
  | _ => none }
def FnColumnsOfWrongFalsely : Prop := fnColumnsOfRow.holds Try.pinned (OpenSpec.ofChange fnColumnsOfWrong)

/-- 'laws.FnConjuncts': WHATEVER THE INPUT: true; the input reads as it did. -/
def fnConjunctsSpec : ChangeSpec := { name := "fnConjuncts", fn := fun _ => fun
  | [d1, d2] => { results := [.lit (.bool true)], args := [d1, d2] }
  | _ => none }
def fnConjunctsRow : OpenClaim := { program := "ytfillcjpdnpaiaa", sum := "1d29a87cab6808f9fb2ba2a5e8178e702ddd6f62f2ecdab41432f869e506682a", func := "loop.example/queryoptimizer/laws.FnConjuncts", spec := "fnConjuncts", unfollowed := true, recurses := true, apart := false }
def FnConjunctsSaid : Prop := fnConjunctsRow.holds Try.pinned (OpenSpec.ofChange fnConjunctsSpec)

/-- ITS FALSE NEIGHBOUR: 'it returns false'. Refute it at one input. -/
def fnConjunctsWrong : ChangeSpec := { name := "fnConjuncts", fn := fun _ => fun
  | [d1, d2] => { results := [.lit (.bool false)], args := [d1, d2] }
  | _ => none }
def FnConjunctsWrongFalsely : Prop := fnConjunctsRow.holds Try.pinned (OpenSpec.ofChange fnConjunctsWrong)

/-- 'laws.FnConjoin': WHATEVER THE INPUT: true; the input reads as it did. -/
def fnConjoinSpec : ChangeSpec := { name := "fnConjoin", fn := fun _ => fun
  | [d1, d2] => { results := [.lit (.bool true)], args := [d1, d2] }
  | _ => none }
def fnConjoinRow : OpenClaim := { program := "ytfillcjpdnpaiaa", sum := "1d29a87cab6808f9fb2ba2a5e8178e702ddd6f62f2ecdab41432f869e506682a", func := "loop.example/queryoptimizer/laws.FnConjoin", spec := "fnConjoin", unfollowed := true, recurses := true, apart := false }
def FnConjoinSaid : Prop := fnConjoinRow.holds Try.pinned (OpenSpec.ofChange fnConjoinSpec)

/-- ITS FALSE NEIGHBOUR: 'it returns false'. Refute it at one input. -/
def fnConjoinWrong : ChangeSpec := { name := "fnConjoin", fn := fun _ => fun
  | [d1, d2] => { results := [.lit (.bool false)], args := [d1, d2] }
  | _ => none }
def FnConjoinWrongFalsely : Prop := fnConjoinRow.holds Try.pinned (OpenSpec.ofChange fnConjoinWrong)

/- THE SECOND FORM. 'bulk': how many values and letters a reading holds, each counted each time it is reached (what is shared counts as often as it is met; a slice's spare places count too). A statement '..UptoSaid' is the law's where the arguments, and the package variables that the reading takes, are together of bulk at most 1048576: NARROWER than '..Said'. Prove '..Said' where nothing that the law and all that it calls make is longer than what came in: it says more and counts as full. Else prove '..UptoSaid'. A law counts once. -/
mutual
def uptoBulk {H : Type} : DataW H → Nat
  | .lit (.string bytes) => bytes.length + 1
  | .lit _ => 1
  | .nil => 1
  | .ptr d => uptoBulk d + 1
  | .slice elems spare => uptoBulkAll elems + uptoBulkAll spare + 1
  | .agg parts => uptoBulkAll parts + 1
  | .iface _ d => uptoBulk d + 1
  | .map entries => uptoBulkEntries entries + 1
  | .held _ => 1
def uptoBulkAll {H : Type} : List (DataW H) → Nat
  | [] => 0
  | d :: r => uptoBulk d + uptoBulkAll r
def uptoBulkEntries {H : Type} : List (Lit × DataW H) → Nat
  | [] => 0
  | x :: r => uptoBulkEntry x + uptoBulkEntries r
def uptoBulkEntry {H : Type} : Lit × DataW H → Nat
  | (.string bytes, d) => bytes.length + uptoBulk d + 1
  | (_, d) => uptoBulk d + 1
 end
def uptoSmall : (H : Type) → List (DataW H) → Bool := fun _ ds => decide (uptoBulkAll ds ≤ 1048576)
def OpenSpec.upto (s : _root_.Go.ChangeSpec) : _root_.Go.OpenSpec := { _root_.Go.OpenSpec.ofChange s with cond := some uptoSmall }

/-- 'laws.FnExactColumnsOf', WHERE WHAT IT READS IS OF BULK AT MOST 1048576: true; the input reads as it did. -/
def fnExactColumnsOfUptoRow : OpenClaim := { program := "ytfillcjpdnpaiaa", sum := "1d29a87cab6808f9fb2ba2a5e8178e702ddd6f62f2ecdab41432f869e506682a", func := "loop.example/queryoptimizer/laws.FnExactColumnsOf", spec := "fnExactColumnsOf", recurses := true, loops := true, apart := false, narrowed := true }
def FnExactColumnsOfUptoSaid : Prop := fnExactColumnsOfUptoRow.holds Try.pinned (OpenSpec.upto fnExactColumnsOfSpec)

/-- 'laws.FnExactConjuncts', WHERE WHAT IT READS IS OF BULK AT MOST 1048576: true; the input reads as it did. -/
def fnExactConjunctsUptoRow : OpenClaim := { program := "ytfillcjpdnpaiaa", sum := "1d29a87cab6808f9fb2ba2a5e8178e702ddd6f62f2ecdab41432f869e506682a", func := "loop.example/queryoptimizer/laws.FnExactConjuncts", spec := "fnExactConjuncts", unfollowed := true, recurses := true, loops := true, apart := false, narrowed := true }
def FnExactConjunctsUptoSaid : Prop := fnExactConjunctsUptoRow.holds Try.pinned (OpenSpec.upto fnExactConjunctsSpec)

/-- 'laws.FnExactConjoin', WHERE WHAT IT READS IS OF BULK AT MOST 1048576: true; the input reads as it did. -/
def fnExactConjoinUptoRow : OpenClaim := { program := "ytfillcjpdnpaiaa", sum := "1d29a87cab6808f9fb2ba2a5e8178e702ddd6f62f2ecdab41432f869e506682a", func := "loop.example/queryoptimizer/laws.FnExactConjoin", spec := "fnExactConjoin", recurses := true, loops := true, apart := false, narrowed := true }
def FnExactConjoinUptoSaid : Prop := fnExactConjoinUptoRow.holds Try.pinned (OpenSpec.upto fnExactConjoinSpec)

/-- 'laws.FnColumnsOf', WHERE WHAT IT READS IS OF BULK AT MOST 1048576: true; the input reads as it did. -/
def fnColumnsOfUptoRow : OpenClaim := { program := "ytfillcjpdnpaiaa", sum := "1d29a87cab6808f9fb2ba2a5e8178e702ddd6f62f2ecdab41432f869e506682a", func := "loop.example/queryoptimizer/laws.FnColumnsOf", spec := "fnColumnsOf", recurses := true, apart := false, narrowed := true }
def FnColumnsOfUptoSaid : Prop := fnColumnsOfUptoRow.holds Try.pinned (OpenSpec.upto fnColumnsOfSpec)

/-- 'laws.FnConjuncts', WHERE WHAT IT READS IS OF BULK AT MOST 1048576: true; the input reads as it did. -/
def fnConjunctsUptoRow : OpenClaim := { program := "ytfillcjpdnpaiaa", sum := "1d29a87cab6808f9fb2ba2a5e8178e702ddd6f62f2ecdab41432f869e506682a", func := "loop.example/queryoptimizer/laws.FnConjuncts", spec := "fnConjuncts", unfollowed := true, recurses := true, apart := false, narrowed := true }
def FnConjunctsUptoSaid : Prop := fnConjunctsUptoRow.holds Try.pinned (OpenSpec.upto fnConjunctsSpec)

/-- 'laws.FnConjoin', WHERE WHAT IT READS IS OF BULK AT MOST 1048576: true; the input reads as it did. -/
def fnConjoinUptoRow : OpenClaim := { program := "ytfillcjpdnpaiaa", sum := "1d29a87cab6808f9fb2ba2a5e8178e702ddd6f62f2ecdab41432f869e506682a", func := "loop.example/queryoptimizer/laws.FnConjoin", spec := "fnConjoin", unfollowed := true, recurses := true, apart := false, narrowed := true }
def FnConjoinUptoSaid : Prop := fnConjoinUptoRow.holds Try.pinned (OpenSpec.upto fnConjoinSpec)

end Rows
end Go.Proofs.Ytfillcjpdnpaiaa
