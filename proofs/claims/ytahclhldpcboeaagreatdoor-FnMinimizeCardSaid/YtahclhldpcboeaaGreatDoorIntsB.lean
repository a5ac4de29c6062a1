/- Sizes and copies of slices of ints. -/
import Derived.Test.YtahclhldpcboeaaGreatDoorInts
import Derived.Test.YtahclhldpcboeaaGreatDoorMem
namespace Go.Proofs.YtahclhldpcboeaaGreatDoor
open Go Go.RowKit
/-- What sizes of two slices leave. -/
def lft2 (left : Int) (m n : Nat) : Int := if left < ((m + n : Nat) : Int) then -1 else left - ((m + n : Nat) : Int)
theorem lft2_ways {m n : Nat} {left : Int} (h : 0 ≤ left) (h' : left ≤ 1048576) : lft2 left m n = -1 ∨ (0 ≤ lft2 left m n ∧ lft2 left m n ≤ 1048576 ∧ m ≤ 1048576 ∧ n ≤ 1048576) := by
  unfold lft2
  by_cases hl : left < ((m + n : Nat) : Int)
  · exact .inl (if_pos hl)
  · rw [if_neg hl]; right; omega
theorem wrap_id {n : Int} (h1 : -9223372036854775808 ≤ n) (h2 : n ≤ 9223372036854775807) : IntKind.i64.wrap n = n := IntWalk.i64_in _ ⟨h1, h2⟩
end Go.Proofs.YtahclhldpcboeaaGreatDoor
