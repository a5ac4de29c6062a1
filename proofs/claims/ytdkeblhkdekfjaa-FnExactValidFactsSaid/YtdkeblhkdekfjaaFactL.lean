/- Walk of the law on facts. -/
import Derived.Test.YtdkeblhkdekfjaaFactW
namespace Go.Proofs.Ytdkeblhkdekfjaa
open Go Go.RowKit
theorem szF {n : Nat} (h : n ≤ 1048576) : (if (1048576 : Int) < (n : Int) then (-1 : Int) else 1048576 - n) = 1048576 - n := by rw [if_neg (by omega)]
theorem szF' {n : Nat} (h : ¬ n ≤ 1048576) : (if (1048576 : Int) < (n : Int) then (-1 : Int) else 1048576 - n) = -1 := by rw [if_pos (by omega)]
theorem walkFnExactValidFacts (A : Option Addr) (c : Nat) (xs : List Fact) (w : World) (hx : RdSl rdFact w.cell? 3 A xs) (hl : xs.length ≤ maxLen) :
    Calls Try.prog 4 #[.slice A xs.length c] w fun e w' => e = .returned (.bool true) ∧ Fr w w' := by
  have H := hid hx
  clear hx
  by_cases hs : xs.length ≤ 1048576
  · go_enter Try.func4, Try.ntmps4
    go_wp2_with fail
    refine (szFactS _ _ _ _ _ hl (by omega) (by omega)).mono ?_
    rintro e w' ⟨rfl, rfl⟩
    rw [szF hs]
    go_wp2_with fail
    refine (toFactS' _ _ _ _ H.out hs).mono ?_
    rintro e w1 ⟨g1, rfl, x1, b1⟩
    have X1 := hid x1; clear x1
    go_wp2_with fail
    refine (specValidFacts _ _ _ _ X1.out hs).mono ?_
    rintro e w2 ⟨rfl, b2⟩
    go_wp2_with fail
    refine (toFactS' _ _ _ _ (H.out.fr rdFact_mono (b1.trans b2)) hs).mono ?_
    rintro e w3 ⟨g3, rfl, x3, b3⟩
    have X3 := hid x3; clear x3
    go_wp2_with fail
    refine (implVFacts _ _ _ _ X3.out hs).mono ?_
    rintro e w4 ⟨rfl, b4⟩
    go_wp2_with fail
    refine (toFactS' _ _ _ _ (H.out.fr rdFact_mono (((b1.trans b2).trans b3).trans b4)) hs).mono ?_
    rintro e w5 ⟨g5, rfl, x5, b5⟩
    have X5 := hid x5; clear x5
    go_wp2_with fail
    refine (eqFactS _ _ _ _ _ _ _ (X3.out.fr rdFact_mono (b4.trans b5)) X5.out hs hs).mono ?_
    rintro e w6 ⟨rfl, b6⟩
    go_wp2
    go_ret
    exact ⟨ret_bool (by simp), ((((b1.trans b2).trans b3).trans b4).trans b5).trans b6⟩
  · go_enter Try.func4, Try.ntmps4
    go_wp2_with fail
    refine (szFactS _ _ _ _ _ hl (by omega) (by omega)).mono ?_
    rintro e w' ⟨rfl, rfl⟩
    rw [szF' hs]
    go_wp2
    go_ret
    exact ⟨rfl, Fr.refl _⟩
end Go.Proofs.Ytdkeblhkdekfjaa
