/- Sizes and copies of slices of ints. -/
import Derived.Test.YtlmiadeaiiehaaaInts
import Derived.Test.YtlmiadeaiiehaaaMem
namespace Go.Proofs.Ytlmiadeaiiehaaa
open Go Go.RowKit
theorem szInts (A : Option Addr) (n cap : Nat) (left : Int) (w : World) (hn : n ≤ maxLen) (h0 : 0 ≤ left) (h1 : left ≤ 1048576) :
    Calls Try.prog 33 #[.slice A n cap, .int .i64 left] w fun e w' => e = .returned (.int .i64 (if left < n then -1 else left - n)) ∧ w = w' := by
  unfold maxLen at hn
  go_enter Try.func33, Try.ntmps33
  go_wp2
  all_goals go_ret
  all_goals exact ⟨ret_int (by first | rfl | (split <;> omega)), rfl⟩
theorem toInts' (A : Option Addr) (cap : Nat) (xs : List Int) (w : World) (hx : RdSl rdInt w.cell? 1 A xs) (hl : xs.length ≤ 1048576) :
    Calls Try.prog 17 #[.slice A xs.length cap] w fun e w' => ∃ g, e = .returned (.slice (some ⟨g, 0, none⟩) xs.length xs.length) ∧ RdSl rdInt w'.cell? 1 (some ⟨g, 0, none⟩) xs ∧ Fr w w' :=
  (toInts A cap xs w hx hl).mono fun _ _ ⟨g, _, h1, _, _, _, h5, h6⟩ => ⟨g, h1, h5, h6⟩
theorem toIntsB (A : Option Addr) (cap : Nat) (xs : List Int) (w : World) (hx : RdSl rdInt w.cell? 1 A xs) (hl : xs.length ≤ 1048576) :
    Calls Try.prog 17 #[.slice A xs.length cap] w fun e w' => ∃ g, e = .returned (.slice (some ⟨g, 0, none⟩) xs.length xs.length) ∧ RdSl rdInt (fromB w' w.heap.size) 1 (some ⟨g, 0, none⟩) xs ∧ Fr w w' :=
  (toInts A cap xs w hx hl).mono fun _ _ ⟨g, _, h1, h2, _, _, h5, h6⟩ => ⟨g, h1, h5.toB rdInt_flat h2, h6⟩
/-- What sizes of two slices leave. -/
def lft2 (left : Int) (m n : Nat) : Int := if left < ((m + n : Nat) : Int) then -1 else left - ((m + n : Nat) : Int)
theorem lft2_ways {m n : Nat} {left : Int} (h : 0 ≤ left) (h' : left ≤ 1048576) : lft2 left m n = -1 ∨ (0 ≤ lft2 left m n ∧ lft2 left m n ≤ 1048576 ∧ m ≤ 1048576 ∧ n ≤ 1048576) := by
  unfold lft2
  by_cases hl : left < ((m + n : Nat) : Int)
  · exact .inl (if_pos hl)
  · rw [if_neg hl]; right; omega
theorem wrap_id {n : Int} (h1 : -9223372036854775808 ≤ n) (h2 : n ≤ 9223372036854775807) : IntKind.i64.wrap n = n := IntWalk.i64_in _ ⟨h1, h2⟩
end Go.Proofs.Ytlmiadeaiiehaaa
