/-
  DERIVED. GIVEN WITH THE SEED: THE PROGRAM's TIES (one call each: nine closed facts by the kernel) AND EACH ROW's TIE, after the 31st guide's Derived/Test/Toyas{Tie, Card}.lean. No idea stands in it: it is a product of the set-up. Laid BY PROGRAM, IN A SANDBOX (cutbox-door.mjs). By AI agents, Wed Nov 11 2026. No macro, syntax, notation, axiom, sorry.
-/
import Derived.Test.YtahclhldpcboeaaGreatDoorRows
import Derived.LaidByTextLater
import Derived.SevenTiedAt
import Derived.LaidSub
import Derived.LaidOnce
namespace Go.Proofs.YtahclhldpcboeaaGreatDoor
open Go
set_option maxRecDepth 100000
theorem seatTie1 : Tryz.prog.laidByTextLater [("loop.example/queryoptimizer/impl.errInvalidQuery", Rows.laid_loop_example_queryoptimizer_impl_errInvalidQuery), ("loop.example/queryoptimizer/impl.errNoHomomorphism", Rows.laid_loop_example_queryoptimizer_impl_errNoHomomorphism)] [.sentinel, .sentinel] true :=
  Program.laidByTextLater_by_one 47 8 2 (by kernel_rfl) (by kernel_rfl) (by kernel_rfl) (by kernel_rfl) (by kernel_rfl) (by kernel_rfl) (fun _ _ => by kernel_rfl)
theorem noOwnUnsafe : Tryz.pinned.checked.prog.headLifts.contains "ownunsafe" = false := by kernel_rfl
theorem tie : Tryz.prog.laidByTextLater [("loop.example/queryoptimizer/impl.errInvalidQuery", Rows.laid_loop_example_queryoptimizer_impl_errInvalidQuery), ("loop.example/queryoptimizer/impl.errNoHomomorphism", Rows.laid_loop_example_queryoptimizer_impl_errNoHomomorphism)] [.sentinel, .sentinel] true :=
  Program.laidByTextLater.sub seatTie1 ["loop.example/queryoptimizer/impl.errInvalidQuery", "loop.example/queryoptimizer/impl.errNoHomomorphism"] (by kernel_rfl) (by kernel_rfl)
theorem fnContainment_row_tie : Rows.fnContainmentRow.laidByTextAt .later Tryz.pinned [.sentinel, .sentinel] true :=
  OpenClaim.laidByTextAt_later rfl rfl tie noOwnUnsafe
theorem fnContainmentComplete_row_tie : Rows.fnContainmentCompleteRow.laidByTextAt .later Tryz.pinned [.sentinel, .sentinel] true :=
  OpenClaim.laidByTextAt_later rfl rfl tie noOwnUnsafe
theorem fnMinimize_row_tie : Rows.fnMinimizeRow.laidByTextAt .later Tryz.pinned [.sentinel, .sentinel] true :=
  OpenClaim.laidByTextAt_later rfl rfl tie noOwnUnsafe
theorem fnContainmentUpto_row_tie : Rows.fnContainmentUptoRow.laidByTextAt .later Tryz.pinned [.sentinel, .sentinel] true :=
  OpenClaim.laidByTextAt_later rfl rfl tie noOwnUnsafe
theorem fnContainmentCompleteUpto_row_tie : Rows.fnContainmentCompleteUptoRow.laidByTextAt .later Tryz.pinned [.sentinel, .sentinel] true :=
  OpenClaim.laidByTextAt_later rfl rfl tie noOwnUnsafe
theorem fnMinimizeUpto_row_tie : Rows.fnMinimizeUptoRow.laidByTextAt .later Tryz.pinned [.sentinel, .sentinel] true :=
  OpenClaim.laidByTextAt_later rfl rfl tie noOwnUnsafe
end Go.Proofs.YtahclhldpcboeaaGreatDoor
