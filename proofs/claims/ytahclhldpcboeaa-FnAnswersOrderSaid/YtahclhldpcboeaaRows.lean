/-
  No cell of these rows narrows 'for every input' (looked for: loops, veiled, ifaces, maps, wideKeys, modest, calm, conditions, laid).
  DERIVED. THE GIVEN ROWS OF THIS SEAT. 7 by the template 'for every input the law returns true; each argument reads behind the call as it read before'; 0 by the template 'total and deterministic' (their statements: YtahclhldpcboeaaTotals.lean).
  GIVEN WITH THE SEED: the statements are not yours to turn. If you find one false, say at which input.
  Laid BY PROGRAM, IN A SANDBOX (cutbox-rows.mjs): the forced cells as the released guide's own fill.sh prints them over the translation bea6bd6fb3acca5d… (all of the seat's roots in one cut). By AI agents, Wed Nov 11 2026. No macro, syntax, notation, axiom, sorry.
-/
import Derived.Test.YtahclhldpcboeaaChecked
import GoSem.Claim
import GoSem.ClaimJoined
import GoSem.ClaimMapViews
import Derived.JoinedTies
import Derived.KernelRfl
namespace Go.Proofs.Ytahclhldpcboeaa
/- THE CELL 'sum', in the pinned program and in every row, IS THE sha256 OF THE DUMP (.gsa) THAT YtahclhldpcboeaaProg.lean LOADS. Nothing in Lean hashes anything: it is a label: what it is worth is what the hold of that sum in a sandbox is worth. -/
noncomputable def Try.pinned : Pinned := { name := "ytahclhldpcboeaa", sum := "bea6bd6fb3acca5defe8a3a41e423803e29a13e2fbac9a39a7d826eafe438d95", checked := Try.checked }
namespace Rows
def none {H : Type} : Left H := { results := [], args := [] }

/-- 'laws.FnExactCheckHomomorphism': WHATEVER THE INPUT: true; the input reads as it did. -/
def fnExactCheckHomomorphismSpec : ChangeSpec := { name := "fnExactCheckHomomorphism", fn := fun _ => fun
  | [d1, d2, d3] => { results := [.lit (.bool true)], args := [d1, d2, d3] }
  | _ => none }
def fnExactCheckHomomorphismRow : OpenClaim := { program := "ytahclhldpcboeaa", sum := "bea6bd6fb3acca5defe8a3a41e423803e29a13e2fbac9a39a7d826eafe438d95", func := "loop.example/queryoptimizer/laws.FnExactCheckHomomorphism", spec := "fnExactCheckHomomorphism", apart := false }
def FnExactCheckHomomorphismSaid : Prop := fnExactCheckHomomorphismRow.holds Try.pinned (OpenSpec.ofChange fnExactCheckHomomorphismSpec)

/-- ITS FALSE NEIGHBOUR: 'it returns false'. Refute it at one input. -/
def fnExactCheckHomomorphismWrong : ChangeSpec := { name := "fnExactCheckHomomorphism", fn := fun _ => fun
  | [d1, d2, d3] => { results := [.lit (.bool false)], args := [d1, d2, d3] }
  | _ => none }
def FnExactCheckHomomorphismWrongFalsely : Prop := fnExactCheckHomomorphismRow.holds Try.pinned (OpenSpec.ofChange fnExactCheckHomomorphismWrong)

/-- 'laws.FnExactFreeze': WHATEVER THE INPUT: true; the input reads as it did. -/
def fnExactFreezeSpec : ChangeSpec := { name := "fnExactFreeze", fn := fun _ => fun
  | [d] => { results := [.lit (.bool true)], args := [d] }
  | _ => none }
def fnExactFreezeRow : OpenClaim := { program := "ytahclhldpcboeaa", sum := "bea6bd6fb3acca5defe8a3a41e423803e29a13e2fbac9a39a7d826eafe438d95", func := "loop.example/queryoptimizer/laws.FnExactFreeze", spec := "fnExactFreeze", unfollowed := true, recurses := true, apart := false }
def FnExactFreezeSaid : Prop := fnExactFreezeRow.holds Try.pinned (OpenSpec.ofChange fnExactFreezeSpec)

/-- ITS FALSE NEIGHBOUR: 'it returns false'. Refute it at one input. -/
def fnExactFreezeWrong : ChangeSpec := { name := "fnExactFreeze", fn := fun _ => fun
  | [d] => { results := [.lit (.bool false)], args := [d] }
  | _ => none }
def FnExactFreezeWrongFalsely : Prop := fnExactFreezeRow.holds Try.pinned (OpenSpec.ofChange fnExactFreezeWrong)

/-- 'laws.FnExactAnswers': WHATEVER THE INPUT: true; the input reads as it did. -/
def fnExactAnswersSpec : ChangeSpec := { name := "fnExactAnswers", fn := fun _ => fun
  | [d1, d2] => { results := [.lit (.bool true)], args := [d1, d2] }
  | _ => none }
def fnExactAnswersRow : OpenClaim := { program := "ytahclhldpcboeaa", sum := "bea6bd6fb3acca5defe8a3a41e423803e29a13e2fbac9a39a7d826eafe438d95", func := "loop.example/queryoptimizer/laws.FnExactAnswers", spec := "fnExactAnswers", unfollowed := true, recurses := true, apart := false }
def FnExactAnswersSaid : Prop := fnExactAnswersRow.holds Try.pinned (OpenSpec.ofChange fnExactAnswersSpec)

/-- ITS FALSE NEIGHBOUR: 'it returns false'. Refute it at one input. -/
def fnExactAnswersWrong : ChangeSpec := { name := "fnExactAnswers", fn := fun _ => fun
  | [d1, d2] => { results := [.lit (.bool false)], args := [d1, d2] }
  | _ => none }
def FnExactAnswersWrongFalsely : Prop := fnExactAnswersRow.holds Try.pinned (OpenSpec.ofChange fnExactAnswersWrong)

/-- 'laws.FnFreeze': WHATEVER THE INPUT: true; the input reads as it did. -/
def fnFreezeSpec : ChangeSpec := { name := "fnFreeze", fn := fun _ => fun
  | [d] => { results := [.lit (.bool true)], args := [d] }
  | _ => none }
def fnFreezeRow : OpenClaim := { program := "ytahclhldpcboeaa", sum := "bea6bd6fb3acca5defe8a3a41e423803e29a13e2fbac9a39a7d826eafe438d95", func := "loop.example/queryoptimizer/laws.FnFreeze", spec := "fnFreeze", unfollowed := true, recurses := true, apart := false }
def FnFreezeSaid : Prop := fnFreezeRow.holds Try.pinned (OpenSpec.ofChange fnFreezeSpec)

/-- ITS FALSE NEIGHBOUR: 'it returns false'. Refute it at one input. -/
def fnFreezeWrong : ChangeSpec := { name := "fnFreeze", fn := fun _ => fun
  | [d] => { results := [.lit (.bool false)], args := [d] }
  | _ => none }
def FnFreezeWrongFalsely : Prop := fnFreezeRow.holds Try.pinned (OpenSpec.ofChange fnFreezeWrong)

/-- 'laws.FnAnswersOrder': WHATEVER THE INPUT: true; the input reads as it did. -/
def fnAnswersOrderSpec : ChangeSpec := { name := "fnAnswersOrder", fn := fun _ => fun
  | [d] => { results := [.lit (.bool true)], args := [d] }
  | _ => none }
def fnAnswersOrderRow : OpenClaim := { program := "ytahclhldpcboeaa", sum := "bea6bd6fb3acca5defe8a3a41e423803e29a13e2fbac9a39a7d826eafe438d95", func := "loop.example/queryoptimizer/laws.FnAnswersOrder", spec := "fnAnswersOrder", unfollowed := true, recurses := true, apart := false }
def FnAnswersOrderSaid : Prop := fnAnswersOrderRow.holds Try.pinned (OpenSpec.ofChange fnAnswersOrderSpec)

/-- ITS FALSE NEIGHBOUR: 'it returns false'. Refute it at one input. -/
def fnAnswersOrderWrong : ChangeSpec := { name := "fnAnswersOrder", fn := fun _ => fun
  | [d] => { results := [.lit (.bool false)], args := [d] }
  | _ => none }
def FnAnswersOrderWrongFalsely : Prop := fnAnswersOrderRow.holds Try.pinned (OpenSpec.ofChange fnAnswersOrderWrong)

/-- 'laws.FnAnswersAtoms': WHATEVER THE INPUT: true; the input reads as it did. -/
def fnAnswersAtomsSpec : ChangeSpec := { name := "fnAnswersAtoms", fn := fun _ => fun
  | [d1, d2] => { results := [.lit (.bool true)], args := [d1, d2] }
  | _ => none }
def fnAnswersAtomsRow : OpenClaim := { program := "ytahclhldpcboeaa", sum := "bea6bd6fb3acca5defe8a3a41e423803e29a13e2fbac9a39a7d826eafe438d95", func := "loop.example/queryoptimizer/laws.FnAnswersAtoms", spec := "fnAnswersAtoms", unfollowed := true, recurses := true, apart := false }
def FnAnswersAtomsSaid : Prop := fnAnswersAtomsRow.holds Try.pinned (OpenSpec.ofChange fnAnswersAtomsSpec)

/-- ITS FALSE NEIGHBOUR: 'it returns false'. Refute it at one input. -/
def fnAnswersAtomsWrong : ChangeSpec := { name := "fnAnswersAtoms", fn := fun _ => fun
  | [d1, d2] => { results := [.lit (.bool false)], args := [d1, d2] }
  | _ => none }
def FnAnswersAtomsWrongFalsely : Prop := fnAnswersAtomsRow.holds Try.pinned (OpenSpec.ofChange fnAnswersAtomsWrong)

/-- 'laws.FnAnswersMonotone': WHATEVER THE INPUT: true; the input reads as it did. -/
def fnAnswersMonotoneSpec : ChangeSpec := { name := "fnAnswersMonotone", fn := fun _ => fun
  | [d1, d2] => { results := [.lit (.bool true)], args := [d1, d2] }
  | _ => none }
def fnAnswersMonotoneRow : OpenClaim := { program := "ytahclhldpcboeaa", sum := "bea6bd6fb3acca5defe8a3a41e423803e29a13e2fbac9a39a7d826eafe438d95", func := "loop.example/queryoptimizer/laws.FnAnswersMonotone", spec := "fnAnswersMonotone", unfollowed := true, recurses := true, apart := false }
def FnAnswersMonotoneSaid : Prop := fnAnswersMonotoneRow.holds Try.pinned (OpenSpec.ofChange fnAnswersMonotoneSpec)

/-- ITS FALSE NEIGHBOUR: 'it returns false'. Refute it at one input. -/
def fnAnswersMonotoneWrong : ChangeSpec := { name := "fnAnswersMonotone", fn := fun _ => fun
  | [d1, d2] => { results := [.lit (.bool false)], args := [d1, d2] }
  | _ => none }
def FnAnswersMonotoneWrongFalsely : Prop := fnAnswersMonotoneRow.holds Try.pinned (OpenSpec.ofChange fnAnswersMonotoneWrong)

/- THE SECOND FORM. 'bulk': how many values and letters a reading holds, each counted each time it is reached (what is shared counts as often as it is met; a slice's spare places count too). A statement '..UptoSaid' is the law's where the arguments, and the package variables that the reading takes, are together of bulk at most 1048576: NARROWER than '..Said'. Prove '..Said' where nothing that the law and all that it calls make is longer than what came in: it says more and counts as full. Else prove '..UptoSaid'. A law counts once. -/
mutual
def uptoBulk {H : Type} : DataW H → Nat
  | .lit (.string bytes) => bytes.length + 1
  | .lit _ => 1
  | .nil => 1
  | .ptr d => uptoBulk d + 1
  | .slice elems spare => uptoBulkAll elems + uptoBulkAll spare + 1
  | .agg parts => uptoBulkAll parts + 1
  | .iface _ d => uptoBulk d + 1
  | .map entries => uptoBulkEntries entries + 1
  | .held _ => 1
def uptoBulkAll {H : Type} : List (DataW H) → Nat
  | [] => 0
  | d :: r => uptoBulk d + uptoBulkAll r
def uptoBulkEntries {H : Type} : List (Lit × DataW H) → Nat
  | [] => 0
  | x :: r => uptoBulkEntry x + uptoBulkEntries r
def uptoBulkEntry {H : Type} : Lit × DataW H → Nat
  | (.string bytes, d) => bytes.length + uptoBulk d + 1
  | (_, d) => uptoBulk d + 1
 end
def uptoSmall : (H : Type) → List (DataW H) → Bool := fun _ ds => decide (uptoBulkAll ds ≤ 1048576)
def OpenSpec.upto (s : _root_.Go.ChangeSpec) : _root_.Go.OpenSpec := { _root_.Go.OpenSpec.ofChange s with cond := some uptoSmall }

/-- 'laws.FnExactCheckHomomorphism', WHERE WHAT IT READS IS OF BULK AT MOST 1048576: true; the input reads as it did. -/
def fnExactCheckHomomorphismUptoRow : OpenClaim := { program := "ytahclhldpcboeaa", sum := "bea6bd6fb3acca5defe8a3a41e423803e29a13e2fbac9a39a7d826eafe438d95", func := "loop.example/queryoptimizer/laws.FnExactCheckHomomorphism", spec := "fnExactCheckHomomorphism", apart := false, narrowed := true }
def FnExactCheckHomomorphismUptoSaid : Prop := fnExactCheckHomomorphismUptoRow.holds Try.pinned (OpenSpec.upto fnExactCheckHomomorphismSpec)

/-- 'laws.FnExactFreeze', WHERE WHAT IT READS IS OF BULK AT MOST 1048576: true; the input reads as it did. -/
def fnExactFreezeUptoRow : OpenClaim := { program := "ytahclhldpcboeaa", sum := "bea6bd6fb3acca5defe8a3a41e423803e29a13e2fbac9a39a7d826eafe438d95", func := "loop.example/queryoptimizer/laws.FnExactFreeze", spec := "fnExactFreeze", unfollowed := true, recurses := true, apart := false, narrowed := true }
def FnExactFreezeUptoSaid : Prop := fnExactFreezeUptoRow.holds Try.pinned (OpenSpec.upto fnExactFreezeSpec)

/-- 'laws.FnExactAnswers', WHERE WHAT IT READS IS OF BULK AT MOST 1048576: true; the input reads as it did. -/
def fnExactAnswersUptoRow : OpenClaim := { program := "ytahclhldpcboeaa", sum := "bea6bd6fb3acca5defe8a3a41e423803e29a13e2fbac9a39a7d826eafe438d95", func := "loop.example/queryoptimizer/laws.FnExactAnswers", spec := "fnExactAnswers", unfollowed := true, recurses := true, apart := false, narrowed := true }
def FnExactAnswersUptoSaid : Prop := fnExactAnswersUptoRow.holds Try.pinned (OpenSpec.upto fnExactAnswersSpec)

/-- 'laws.FnFreeze', WHERE WHAT IT READS IS OF BULK AT MOST 1048576: true; the input reads as it did. -/
def fnFreezeUptoRow : OpenClaim := { program := "ytahclhldpcboeaa", sum := "bea6bd6fb3acca5defe8a3a41e423803e29a13e2fbac9a39a7d826eafe438d95", func := "loop.example/queryoptimizer/laws.FnFreeze", spec := "fnFreeze", unfollowed := true, recurses := true, apart := false, narrowed := true }
def FnFreezeUptoSaid : Prop := fnFreezeUptoRow.holds Try.pinned (OpenSpec.upto fnFreezeSpec)

/-- 'laws.FnAnswersOrder', WHERE WHAT IT READS IS OF BULK AT MOST 1048576: true; the input reads as it did. -/
def fnAnswersOrderUptoRow : OpenClaim := { program := "ytahclhldpcboeaa", sum := "bea6bd6fb3acca5defe8a3a41e423803e29a13e2fbac9a39a7d826eafe438d95", func := "loop.example/queryoptimizer/laws.FnAnswersOrder", spec := "fnAnswersOrder", unfollowed := true, recurses := true, apart := false, narrowed := true }
def FnAnswersOrderUptoSaid : Prop := fnAnswersOrderUptoRow.holds Try.pinned (OpenSpec.upto fnAnswersOrderSpec)

/-- 'laws.FnAnswersAtoms', WHERE WHAT IT READS IS OF BULK AT MOST 1048576: true; the input reads as it did. -/
def fnAnswersAtomsUptoRow : OpenClaim := { program := "ytahclhldpcboeaa", sum := "bea6bd6fb3acca5defe8a3a41e423803e29a13e2fbac9a39a7d826eafe438d95", func := "loop.example/queryoptimizer/laws.FnAnswersAtoms", spec := "fnAnswersAtoms", unfollowed := true, recurses := true, apart := false, narrowed := true }
def FnAnswersAtomsUptoSaid : Prop := fnAnswersAtomsUptoRow.holds Try.pinned (OpenSpec.upto fnAnswersAtomsSpec)

/-- 'laws.FnAnswersMonotone', WHERE WHAT IT READS IS OF BULK AT MOST 1048576: true; the input reads as it did. -/
def fnAnswersMonotoneUptoRow : OpenClaim := { program := "ytahclhldpcboeaa", sum := "bea6bd6fb3acca5defe8a3a41e423803e29a13e2fbac9a39a7d826eafe438d95", func := "loop.example/queryoptimizer/laws.FnAnswersMonotone", spec := "fnAnswersMonotone", unfollowed := true, recurses := true, apart := false, narrowed := true }
def FnAnswersMonotoneUptoSaid : Prop := fnAnswersMonotoneUptoRow.holds Try.pinned (OpenSpec.upto fnAnswersMonotoneSpec)

end Rows
end Go.Proofs.Ytahclhldpcboeaa
